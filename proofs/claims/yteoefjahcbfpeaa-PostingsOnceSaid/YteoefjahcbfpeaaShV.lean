/- Shadow, part 22: this seat's context; lists of numbers, lists of posts. -/
import Derived.Test.YteoefjahcbfpeaaShZ
import Derived.Test.YteoefjahcbfpeaaProg
import Derived.KernelRfl
namespace Go.Sh
open Go Go.Proofs
set_option linter.unusedSimpArgs false

/-- The functions that are walked. -/
noncomputable def walked (g : FuncId) : Option Func := match Try.prog.funcs[g]? with
  | some fn => if fn.body.isSome && !(fn.name == "runtime.NumGoroutine") then some fn else none
  | none => none

/-- Contracts that are proved from nothing: the closed test; what has no body. -/
noncomputable def prims (g : FuncId) (xs : Array Value) (A : AHeap) : Option (Value × AHeap) :=
  if g = 53 then (if xs.size = 1 then some (xs.getD 0 undef, A) else none)
  else if g = 7 then (if xs.size = 0 then some (.bool true, A) else none)
  else none

noncomputable def Kt : Ctx where
  P := Try.prog
  funcs := walked
  prim := prims
  same := fun a b => @decide (a = b) (Classical.propDecidable _)

theorem Kt_P : Kt.P = Try.prog := rfl
theorem Kt_prim {g : FuncId} (h : g ≠ 53 ∧ g ≠ 7) (xs : Array Value) (A : AHeap) : Kt.prim g xs A = none := by
  show prims g xs A = none
  rw [prims, if_neg h.1, if_neg h.2]

/-! ### Types by short names -/
theorem ya : type_of% Try.underlying3 := Try.underlying3
theorem yb : type_of% Try.underlying2 := Try.underlying2
theorem yc : type_of% Try.underlying4 := Try.underlying4
theorem yd : type_of% Try.underlying38 := Try.underlying38
theorem ye : type_of% Try.underlying40 := Try.underlying40
theorem yf : type_of% Try.underlying29 := Try.underlying29
theorem yg : type_of% Try.underlying92 := Try.underlying92
theorem yh : type_of% Try.underlying93 := Try.underlying93
theorem yi : type_of% Try.underlying109 := Try.underlying109
theorem yj : type_of% Try.underlying68 := Try.underlying68
theorem yk : type_of% Try.underlying112 := Try.underlying112
theorem yl : type_of% Try.underlying66 := Try.underlying66
theorem ym : type_of% Try.underlying110 := Try.underlying110
/-! ### Types -/
theorem ts_int : tsize Try.prog 3 = some 1 := by kernel_rfl
theorem ts_int64 : tsize Try.prog 2 = some 1 := by kernel_rfl
theorem ts_bool : tsize Try.prog 4 = some 1 := by kernel_rfl
theorem ts_ints : tsize Try.prog 38 = some 1 := by kernel_rfl
theorem ts_post : tsize Try.prog 40 = some 2 := by kernel_rfl
theorem ts_posts : tsize Try.prog 29 = some 1 := by kernel_rfl

/-! ### Numbers -/
def inI64 (x : Int) : Prop := -9223372036854775808 ≤ x ∧ x < 9223372036854775808
def ints (l : List Int) : List Value := l.map (.int .i64)
def Ints (A : AHeap) (v : Value) (l : List Int) : Prop := Elems A 3 1 v l.length (ints l) ∧ (∀ x ∈ l, inI64 x) ∧ (l.length : Int) < 9223372036854775808

theorem Ints.dk {A A' : AHeap} (h : ∀ b el cells, Dat A b el cells → Dat A' b el cells) {v : Value} {l : List Int} (hv : Ints A v l) : Ints A' v l := ⟨hv.1.dk h, hv.2⟩
theorem Ints.fr {W : Nat → Prop} {A A' : AHeap} (h : Fr W A A') {v : Value} {l : List Int} (hv : Ints A v l) : Ints A' v l := ⟨hv.1.fr h, hv.2⟩
theorem Ints.opened {A : AHeap} {v : Value} {l : List Int} (h : Ints A v l) : ∃ o, v = .slice o l.length l.length ∧ (∀ i < l.length, ∃ b, o = some ⟨b, 0, none⟩ ∧ Dat A b 3 (ints l)) ∧ (∀ x ∈ l, inI64 x) ∧ (l.length : Int) < 9223372036854775808 := by
  obtain ⟨⟨_, h1⟩, h2, h3⟩ := h
  rcases h1 with ⟨hv, h1⟩ | ⟨b, rfl, h1⟩
  · obtain ⟨o, rfl⟩ := hv.at
    exact ⟨o, by rw [h1], fun i hi => by omega, h2, h3⟩
  · exact ⟨_, rfl, fun i _ => ⟨b, rfl, h1⟩, h2, h3⟩
theorem ints_get {l : List Int} {i : Nat} (h : i < l.length) : (ints l)[i]? = some (.int .i64 l[i]) := by simp [ints, h]
theorem Dat.int {A : AHeap} {b i : Nat} {el : TypeId} {l : List Int} (h : Dat A b el (ints l)) (hi : i < l.length) : aLoadVar Try.prog A 3 (.pointer (some ⟨b, i, none⟩)) = some (.int .i64 l[i]) :=
  h.load Try.underlying3 rfl (ints_get hi)

theorem wrap_i64 {x : Int} (h : -9223372036854775808 ≤ x ∧ x < 9223372036854775808) : IntKind.i64.wrap x = x := by
  obtain ⟨h1, h2⟩ := h
  simp [IntKind.wrap, IntKind.signed, IntKind.bits]
  split <;> omega

/-! ### Posts -/
abbrev PostL := Int × List Int
def postCells (l : List PostL) (vs : List Value) : List Value := (l.zip vs).flatMap fun x => [.int .i64 x.1.1, x.2]
def PostsAs (A : AHeap) (v : Value) (l : List PostL) (vs : List Value) : Prop :=
  vs.length = l.length ∧ Elems A 40 2 v l.length (postCells l vs) ∧ (∀ (i : Nat) (h : i < l.length) (h' : i < vs.length), Ints A vs[i] l[i].2 ∧ inI64 l[i].1) ∧ (l.length : Int) < 9223372036854775808
def Posts (A : AHeap) (v : Value) (l : List PostL) : Prop := ∃ vs, PostsAs A v l vs

theorem Posts.dk {A A' : AHeap} (h : ∀ b el cells, Dat A b el cells → Dat A' b el cells) {v : Value} {l : List PostL} (hv : Posts A v l) : Posts A' v l :=
  let ⟨vs, h1, h2, h3, h4⟩ := hv; ⟨vs, h1, h2.dk h, fun i hi hi' => ⟨(h3 i hi hi').1.dk h, (h3 i hi hi').2⟩, h4⟩
theorem Posts.fr {W : Nat → Prop} {A A' : AHeap} (h : Fr W A A') {v : Value} {l : List PostL} (hv : Posts A v l) : Posts A' v l :=
  let ⟨vs, h1, h2, h3, h4⟩ := hv; ⟨vs, h1, h2.fr h, fun i hi hi' => ⟨(h3 i hi hi').1.fr h, (h3 i hi hi').2⟩, h4⟩

theorem postCells_get : ∀ (l : List PostL) (vs : List Value) (i : Nat) (h : i < l.length) (h' : i < vs.length), ((postCells l vs).drop (i * 2)).take 2 = [.int .i64 l[i].1, vs[i]] ∧ i * 2 + 2 ≤ (postCells l vs).length
  | [], _, _, h, _ => by simp at h
  | _ :: _, [], _, _, h' => by simp at h'
  | p :: l, u :: vs, 0, _, _ => by simp [postCells]
  | p :: l, u :: vs, i + 1, h, h' => by
    have ih := postCells_get l vs i (by simpa using h) (by simpa using h')
    have e : postCells (p :: l) (u :: vs) = [.int .i64 p.1, u] ++ postCells l vs := by simp [postCells]
    rw [e]
    refine ⟨?_, by simp only [List.length_append, List.length_cons, List.length_nil]; omega⟩
    rw [show (i + 1) * 2 = 2 + i * 2 by omega, List.drop_append, List.drop_of_length_le (by simp)]
    simpa using ih.1

theorem Posts.opened {A : AHeap} {v : Value} {l : List PostL} (h : Posts A v l) : ∃ o, v = .slice o l.length l.length ∧ (l.length : Int) < 9223372036854775808 ∧
    (∀ i, (h : i < l.length) → ∃ b u, o = some ⟨b, 0, none⟩ ∧ aLoadVar Try.prog A 40 (.pointer (some ⟨b, i * 2, none⟩)) = some (.agg #[.int .i64 l[i].1, u]) ∧
      aLoadVar Try.prog A 2 (.pointer (some ⟨b, i * 2, none⟩)) = some (.int .i64 l[i].1) ∧ aLoadVar Try.prog A 38 (.pointer (some ⟨b, i * 2 + 1, none⟩)) = some u ∧ Ints A u l[i].2 ∧ inI64 l[i].1) := by
  obtain ⟨vs, h0, ⟨_, h1⟩, h2, h3⟩ := h
  rcases h1 with ⟨hv, h1⟩ | ⟨b, rfl, h1⟩
  · obtain ⟨o, rfl⟩ := hv.at
    exact ⟨o, by rw [h1], h3, fun i hi => by omega⟩
  · refine ⟨_, rfl, h3, fun i hi => ?_⟩
    have hi' : i < vs.length := by omega
    obtain ⟨g1, g2⟩ := postCells_get l vs i hi hi'
    have k1 : (postCells l vs)[i * 2]? = some (.int .i64 l[i].1) := by
      have : (((postCells l vs).drop (i * 2)).take 2)[0]? = some (.int .i64 l[i].1) := by rw [g1]; rfl
      simpa using this
    have k2 : (postCells l vs)[i * 2 + 1]? = some vs[i] := by
      have : (((postCells l vs).drop (i * 2)).take 2)[1]? = some vs[i] := by rw [g1]; rfl
      simpa using this
    refine ⟨b, vs[i], rfl, ?_, h1.load Try.underlying2 rfl k1, h1.load Try.underlying38 rfl k2, h2 i hi hi'⟩
    rw [h1.loadAgg Try.underlying40 rfl ts_post g2, g1]
end Go.Sh
