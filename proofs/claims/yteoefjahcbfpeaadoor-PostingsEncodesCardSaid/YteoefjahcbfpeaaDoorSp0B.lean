/- Lists of one's own: numbers, posts. -/
import Derived.Test.YteoefjahcbfpeaaDoorSp0A
namespace Go.Sh
open Go Go.Proofs
set_option linter.unusedSimpArgs false
set_option linter.unusedVariables false
set_option maxRecDepth 4000

theorem Acc.at {A : AHeap} {el sz : Nat} {v : Value} {n : Nat} {cells : List Value} (h : Acc A el sz v n cells) : ∃ o, v = .slice o n n := by
  rcases h.2 with ⟨h1, h2⟩ | ⟨b', h1, _⟩
  · exact ⟨none, by rw [h1, h2]⟩
  · exact ⟨_, h1⟩
theorem Acc.lt {A : AHeap} {el sz : Nat} {v : Value} {n : Nat} {cells : List Value} (h : Acc A el sz v n cells) : ∀ b, blockOf v b → b < A.next := by
  rcases h.2 with ⟨h1, _⟩ | ⟨b', h1, h2⟩
  · rw [h1]; exact fun b h => h.elim
  · rw [h1]; intro b hb; simp only [blockOf] at hb; subst hb; exact h2.1

theorem Fr.datP {W : Nat → Prop} {A A' : AHeap} (h : Fr W A A') {b : Nat} {el : TypeId} {cells : List Value} (hd : DatP A b el cells) : DatP A' b el cells :=
  let ⟨r, hr⟩ := hd
  ⟨r, h.dat _ _ _ hr⟩

/-- Numbers of one's own; W: where their block lies. -/
def OInts (W : Nat → Prop) (A : AHeap) (v : Value) (l : List Int) : Prop :=
  Acc A 3 1 v l.length (ints l) ∧ (∀ x ∈ l, inI64 x) ∧ (l.length : Int) < 9223372036854775808 ∧ ∀ b, blockOf v b → W b
theorem OInts.ints {W : Nat → Prop} {A : AHeap} {v : Value} {l : List Int} (h : OInts W A v l) : Ints A v l := ⟨h.1.elems.c, h.2.1, h.2.2.1⟩
theorem OInts.fr {W M : Nat → Prop} {A A' : AHeap} {v : Value} {l : List Int} (h : OInts W A v l) (hF : Fr M A A') (hm : ∀ b, blockOf v b → ¬ M b) : OInts W A' v l :=
  ⟨h.1.fr hF hm, h.2.1, h.2.2.1, h.2.2.2⟩
theorem OInts.ext {W : Nat → Prop} {A A' : AHeap} {v : Value} {l : List Int} (h : OInts W A v l) (hF : Ext A A') : OInts W A' v l := h.fr hF fun _ _ h => h
theorem OInts.mono {W W' : Nat → Prop} {A : AHeap} {v : Value} {l : List Int} (h : OInts W A v l) (hw : ∀ b, blockOf v b → W b → W' b) : OInts W' A v l :=
  ⟨h.1, h.2.1, h.2.2.1, fun b hb => hw b hb (h.2.2.2 b hb)⟩

/-- Slices whose blocks are each another. -/
def Dis (vs : List Value) : Prop := vs.Pairwise fun x y => ∀ b, blockOf x b → ¬ blockOf y b
theorem Dis.ne {vs : List Value} (h : Dis vs) {i j : Nat} (hi : i < vs.length) (hj : j < vs.length) (hij : i ≠ j) : ∀ b, blockOf vs[i] b → ¬ blockOf vs[j] b := by
  intro b h1 h2
  rcases Nat.lt_or_gt_of_ne hij with h3 | h3
  · exact List.pairwise_iff_getElem.1 h i j hi hj h3 b h1 h2
  · exact List.pairwise_iff_getElem.1 h j i hj hi h3 b h2 h1
theorem Dis.snoc {vs : List Value} {u : Value} (h : Dis vs) (hu : ∀ (i : Nat) (hi : i < vs.length) b, blockOf vs[i] b → ¬ blockOf u b) : Dis (vs ++ [u]) := by
  refine List.pairwise_append.2 ⟨h, List.pairwise_singleton _ _, fun x hx y hy => ?_⟩
  simp only [List.mem_singleton] at hy
  subst hy
  obtain ⟨i, hi, rfl⟩ := List.getElem_of_mem hx
  exact hu i hi
theorem Dis.nil : Dis [] := List.Pairwise.nil

/-- Posts of one's own: the list's block and each post's places' block are W's, each another. -/
def POwn (W : Nat → Prop) (A : AHeap) (v : Value) (l : List PostL) (vs : List Value) : Prop :=
  vs.length = l.length ∧ Acc A 44 2 v l.length (postCells l vs) ∧ (∀ b, blockOf v b → W b) ∧
    (∀ (i : Nat) (h : i < l.length) (h' : i < vs.length), OInts W A vs[i] l[i].2 ∧ inI64 l[i].1 ∧ ∀ b, blockOf vs[i] b → ¬ blockOf v b) ∧ Dis vs
theorem POwn.nil (W : Nat → Prop) (A : AHeap) : POwn W A (.slice none 0 0) [] [] :=
  ⟨rfl, ⟨rfl, .inl ⟨rfl, rfl⟩⟩, fun b h => h.elim, fun i h => by simp at h, Dis.nil⟩
theorem POwn.posts {W : Nat → Prop} {A : AHeap} {v : Value} {l : List PostL} {vs : List Value} (h : POwn W A v l vs) (hl : (l.length : Int) < 9223372036854775808) : Posts A v l :=
  ⟨vs, h.1, h.2.1.elems.c, fun i k k' => ⟨(h.2.2.2.1 i k k').1.ints, (h.2.2.2.1 i k k').2.1⟩, hl⟩
theorem POwn.at {W : Nat → Prop} {A : AHeap} {v : Value} {l : List PostL} {vs : List Value} (h : POwn W A v l vs) : ∃ o, v = .slice o l.length l.length := h.2.1.at
theorem POwn.lt {W : Nat → Prop} {A : AHeap} {v : Value} {l : List PostL} {vs : List Value} (h : POwn W A v l vs) :
    (∀ b, blockOf v b → b < A.next) ∧ ∀ (i : Nat) (hi : i < vs.length) b, blockOf vs[i] b → b < A.next :=
  ⟨h.2.1.lt, fun i hi => (h.2.2.2.1 i (by rw [← h.1]; exact hi) hi).1.1.lt⟩
theorem POwn.fr {W M : Nat → Prop} {A A' : AHeap} {v : Value} {l : List PostL} {vs : List Value} (h : POwn W A v l vs) (hF : Fr M A A') (hm : ∀ b, b < A.next → W b → ¬ M b) : POwn W A' v l vs :=
  ⟨h.1, h.2.1.fr hF fun b hb => hm b (h.lt.1 b hb) (h.2.2.1 b hb), h.2.2.1, fun i k k' => by
    obtain ⟨h1, h2, h3⟩ := h.2.2.2.1 i k k'
    exact ⟨h1.fr hF fun b hb => hm b (h.lt.2 i k' b hb) (h1.2.2.2 b hb), h2, h3⟩, h.2.2.2.2⟩
theorem POwn.ext {W : Nat → Prop} {A A' : AHeap} {v : Value} {l : List PostL} {vs : List Value} (h : POwn W A v l vs) (hF : Ext A A') : POwn W A' v l vs := h.fr hF fun _ _ _ h => h
theorem POwn.mono {W W' : Nat → Prop} {A : AHeap} {v : Value} {l : List PostL} {vs : List Value} (h : POwn W A v l vs) (hw : ∀ b, b < A.next → W b → W' b) : POwn W' A v l vs :=
  ⟨h.1, h.2.1, fun b hb => hw b (h.lt.1 b hb) (h.2.2.1 b hb), fun i k k' => by
    obtain ⟨h1, h2, h3⟩ := h.2.2.2.1 i k k'
    exact ⟨h1.mono fun b hb => hw b (h.lt.2 i k' b hb), h2, h3⟩, h.2.2.2.2⟩
theorem POwn.keep {W : Nat → Prop} {A A' : AHeap} {v : Value} {l : List PostL} {vs : List Value} (h : POwn W A v l vs) {base : Nat} {W1 : Nat → Prop} (hK : Keep base W1 A A') (hm : ∀ b, W b → b < base ∨ W1 b) : POwn W A' v l vs :=
  ⟨h.1, hK.acc h.2.1 fun b hb => hm b (h.2.2.1 b hb), h.2.2.1, fun i k k' => by
    obtain ⟨h1, h2, h3⟩ := h.2.2.2.1 i k k'
    exact ⟨⟨hK.acc h1.1 fun b hb => hm b (h1.2.2.2 b hb), h1.2⟩, h2, h3⟩, h.2.2.2.2⟩

/-- One post more: A as the list was before, A' as it is. M: what was turned between. -/
theorem POwn.snoc {W W' M : Nat → Prop} {A A' : AHeap} {v v' u : Value} {l : List PostL} {vs : List Value} {d : Int} {p : List Int} (h : POwn W A v l vs) (hF : Fr M A A')
    (hm : ∀ (i : Nat) (hi : i < vs.length) b, blockOf vs[i] b → ¬ M b) (hA : Acc A' 44 2 v' (l.length + 1) (postCells l vs ++ [.int .i64 d, u])) (hu : OInts W' A' u p) (hd : inI64 d)
    (hu2 : ∀ b, blockOf u b → A.next ≤ b ∧ ¬ blockOf v' b) (hv2 : ∀ b, blockOf v' b → A.next ≤ b ∧ W' b) (hw : ∀ b, b < A.next → W b → W' b) : POwn W' A' v' (l ++ [(d, p)]) (vs ++ [u]) := by
  have hlt := h.lt
  obtain ⟨h1, h2, h3, h4, h5⟩ := h
  refine ⟨by simp [h1], ?_, fun b hb => (hv2 b hb).2, ?_, h5.snoc fun i hi b hb hc => by have := hlt.2 i hi b hb; have := (hu2 b hc).1; omega⟩
  · rw [postCells_snoc _ _ h1, List.length_append]
    exact hA
  · intro j hj hj'
    by_cases hjl : j < l.length
    · have hj2 : j < vs.length := by omega
      rw [List.getElem_append_left hj2, List.getElem_append_left hjl]
      obtain ⟨g1, g2, g3⟩ := h4 j hjl hj2
      refine ⟨(g1.fr hF (hm j hj2)).mono fun b hb => hw b (hlt.2 j hj2 b hb), g2, fun b hb hc => ?_⟩
      have := hlt.2 j hj2 b hb
      have := (hv2 b hc).1
      omega
    · have hj2 : j = vs.length := by simp at hj; omega
      subst hj2
      rw [List.getElem_append_right (by omega), List.getElem_append_right (by omega)]
      simp only [h1,Nat.sub_self,List.getElem_singleton]
      exact ⟨hu, hd, fun b hb => (hu2 b hb).2⟩
/-- What may be loaded of a list's post, in whatever memory its data lies. -/
theorem Posts.all {A : AHeap} {v : Value} {l : List PostL} (h : Posts A v l) : ∃ o c, v = .slice o l.length c ∧ (l.length : Int) < 9223372036854775808 ∧
    ∀ i, (h : i < l.length) → ∃ b u, o = some ⟨b, 0, none⟩ ∧ inI64 l[i].1 ∧ ∀ H, (∀ b el cells, Dat A b el cells → Dat H b el cells) → aLoadVar Tryd.prog H 44 (.pointer (some ⟨b, i * 2, none⟩)) = some (.agg #[.int .i64 l[i].1, u]) ∧
      aLoadVar Tryd.prog H 2 (.pointer (some ⟨b, i * 2, none⟩)) = some (.int .i64 l[i].1) ∧ aLoadVar Tryd.prog H 42 (.pointer (some ⟨b, i * 2 + 1, none⟩)) = some u ∧ Ints H u l[i].2 := by
  obtain ⟨vs, h0, ⟨_, h1⟩, h2, h3⟩ := h
  rcases h1 with ⟨hv, h1⟩ | ⟨b, c, rfl, _, rest, h1⟩
  · obtain ⟨o, rfl⟩ := hv.at
    exact ⟨o, 0, by rw [h1], h3, fun i hi => by omega⟩
  · refine ⟨_, c, rfl, h3, fun i hi => ?_⟩
    have hi' : i < vs.length := by omega
    obtain ⟨g1, g2⟩ := postCells_get l vs i hi hi'
    have k1 : (postCells l vs)[i * 2]? = some (.int .i64 l[i].1) := by
      have : (((postCells l vs).drop (i * 2)).take 2)[0]? = some (.int .i64 l[i].1) := by rw [g1]; rfl
      simpa using this
    have k2 : (postCells l vs)[i * 2 + 1]? = some vs[i] := by
      have : (((postCells l vs).drop (i * 2)).take 2)[1]? = some vs[i] := by rw [g1]; rfl
      simpa using this
    refine ⟨b, vs[i], rfl, (h2 i hi hi').2, fun H hH => ?_⟩
    have hd : DatP H b 44 (postCells l vs) := ⟨rest, hH _ _ _ h1⟩
    refine ⟨?_, hd.load Tryd.underlying2 rfl k1, hd.load Tryd.underlying42 rfl k2, (h2 i hi hi').1.dk hH⟩
    rw [hd.loadAgg Tryd.underlying44 rfl ts_post g2, g1]

/-- Posts that came after a memory. -/
def PRes (A0 A : AHeap) (v : Value) (l : List PostL) : Prop := ∃ vs, POwn (fun b => A0.next ≤ b) A v l vs ∧ l.length ≤ 1000000
theorem PRes.posts {A0 A : AHeap} {v : Value} {l : List PostL} (h : PRes A0 A v l) : Posts A v l :=
  let ⟨_, h1, h2⟩ := h
  h1.posts (by omega)
theorem PRes.nil (A0 A : AHeap) : PRes A0 A (.slice none 0 0) [] := ⟨[], POwn.nil _ _, by simp⟩
end Go.Sh
