/- Facts that many texts use. -/
import Derived.Test.YteoefjahcbfpeaaDoorSpB
namespace Go.Sh
open Go Go.Proofs
set_option linter.unusedSimpArgs false
set_option linter.unusedVariables false
set_option maxRecDepth 4000

theorem tz_post : tzero Tryd.prog 44 = some (.agg #[.int .i64 0, .slice none 0 0]) := by kernel_rfl

/-- Keys and values, one by one; P: how a value lies in memory. -/
def RKV {X : Type} (P : AHeap → Value → X → Prop) (l : List (Int × X)) (i : Nat) (xs : Array Value) (A : AHeap) : Prop := ∃ (_ : i < l.length) (u : Value), xs = #[.int .i64 l[i].1, u] ∧ P A u l[i].2

theorem KeepR.box {Rd : Nat → Prop} {A A' : AHeap} (h : KeepR Rd A A') {b : Nat} {el : TypeId} {cells : List Value} (hb : Box A b el cells) (hr : Rd b) : Box A' b el cells :=
  ⟨Nat.lt_of_lt_of_le hb.1 h.next, by rw [h.same b hr]; exact hb.2⟩

theorem ItV.kr {K : Ctx} {A A1 : AHeap} {fv : Value} {N : Nat} {R : Nat → Array Value → AHeap → Prop} {Rd Rd' : Nat → Prop} (hi : ItV K A fv N R Rd) (h : KeepR Rd' A A1) (hr : ∀ b, Rd b → Rd' b) : ItV K A1 fv N R Rd := by
  obtain ⟨h0, g, fs, cs, h1, h2⟩ := hi
  exact ⟨fun b hb => Nat.lt_of_lt_of_le (h0 b hb) h.next, g, fs, cs, h1, fun A2 k => h2 A2 (KeepR.trans ⟨h.next, fun b hb => h.same b (hr b hb), h.dat⟩ k)⟩

theorem Ints.isSlice {A : AHeap} {u : Value} {l : List Int} (h : Ints A u l) : ∃ o n c, u = .slice o n c := by
  obtain ⟨o, c, h, _⟩ := h.opened
  exact ⟨o, _, _, h⟩
theorem Ints_dk : ∀ (A A' : AHeap) (u : Value) (x : List Int), (∀ b el cells, Dat A b el cells → Dat A' b el cells) → Ints A u x → Ints A' u x := fun _ _ _ _ h k => k.dk h

theorem aSrc_box {A : AHeap} {b n sz : Nat} {el : TypeId} {cells : List Value} (hb : Box A b el cells) (hl : n * sz = cells.length) : aSrc A sz (.slice (some ⟨b, 0, none⟩) n n) = some (n, cells) := by
  simp [aSrc, hl, acells_of hb.arow (o := 0) (n := cells.length) (by simp)]

theorem Elems.opened {A : AHeap} {el n : Nat} {v : Value} {cells : List Value} (h : Elems A el 1 v n cells) : ∃ o, v = .slice o n n ∧ cells.length = n ∧ ∀ j < n, ∃ b, o = some ⟨b, 0, none⟩ ∧ Dat A b el cells := by
  obtain ⟨h0, h1⟩ := h
  rcases h1 with ⟨hv, rfl⟩ | ⟨b, rfl, h1⟩
  · obtain ⟨o, rfl⟩ := hv.at
    exact ⟨o, rfl, by omega, fun j hj => by omega⟩
  · exact ⟨_, rfl, by omega, fun j _ => ⟨b, rfl, h1⟩⟩

theorem ts_intsl : tsize Tryd.prog 118 = some 1 := by kernel_rfl
theorem ts_int64s : tsize Tryd.prog 117 = some 1 := by kernel_rfl
theorem ts_bools : tsize Tryd.prog 148 = some 1 := by kernel_rfl
theorem tz_int : tzero Tryd.prog 3 = some (.int .i64 0) := by kernel_rfl
theorem tz_int64 : tzero Tryd.prog 2 = some (.int .i64 0) := by kernel_rfl
theorem tz_bool : tzero Tryd.prog 4 = some (.bool false) := by kernel_rfl
theorem tz_ints : tzero Tryd.prog 42 = some (.slice none 0 0) := by kernel_rfl
theorem tz_int64s : tzero Tryd.prog 117 = some (.slice none 0 0) := by kernel_rfl
theorem tz_bools : tzero Tryd.prog 148 = some (.slice none 0 0) := by kernel_rfl
theorem tz_intsl : tzero Tryd.prog 118 = some (.slice none 0 0) := by kernel_rfl
theorem tb_int : tbytes Tryd.prog 3 = some 8 := by kernel_rfl
theorem tb_int64 : tbytes Tryd.prog 2 = some 8 := by kernel_rfl
theorem tb_bool : tbytes Tryd.prog 4 = some 1 := by kernel_rfl
theorem tb_ints : tbytes Tryd.prog 42 = some 24 := by kernel_rfl
theorem ts_side : tsize Tryd.prog 87 = some 2 := by kernel_rfl
theorem ts_sideb : tsize Tryd.prog 151 = some 2 := by kernel_rfl
theorem ts_pints : tsize Tryd.prog 85 = some 1 := by kernel_rfl
theorem ts_pbool : tsize Tryd.prog 149 = some 1 := by kernel_rfl
theorem tb_post : tbytes Tryd.prog 44 = some 32 := by kernel_rfl
theorem tz_posts : tzero Tryd.prog 22 = some (.slice none 0 0) := by kernel_rfl

theorem build_post (d : Int) (o : Option Addr) (n c : Nat) : aBuild Tryd.prog 44 [(0, .int .i64 d), (1, .slice o n c)] = some (.agg #[.int .i64 d, .slice o n c]) := by kernel_rfl

theorem postCells_snoc (l : List PostL) (vs : List Value) (h : vs.length = l.length) (p : PostL) (u : Value) : postCells (l ++ [p]) (vs ++ [u]) = postCells l vs ++ [.int .i64 p.1, u] := by
  unfold postCells
  rw [List.zip_append h.symm, List.flatMap_append]
  simp

theorem neg_nonneg : ((0 : Int) ≤ -1) = False := by simp
theorem Kt_same (v : Value) : Kt.same v v = true := by
  show @decide (v = v) (Classical.propDecidable _) = true
  simp

end Go.Sh
