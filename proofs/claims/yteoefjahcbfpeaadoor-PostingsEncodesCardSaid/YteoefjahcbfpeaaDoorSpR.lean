/- What comes in, in this seat: lists of numbers, lists of posts. -/
import Derived.Test.YteoefjahcbfpeaaDoorSkC
import Derived.Test.YteoefjahcbfpeaaDoorShV
import Derived.ProofKit
import Derived.Deep.SlicePairs
namespace Go.Sh
open Go Go.Proofs Go.ChangeShapes Go.WideShapes Go.Deep
set_option linter.unusedSimpArgs false

theorem ce_int : Tryd.prog.cellsOf 3 = 1 := by kernel_rfl
theorem ce_int64 : Tryd.prog.cellsOf 2 = 1 := by kernel_rfl
theorem ce_ints : Tryd.prog.cellsOf 42 = 1 := by kernel_rfl
theorem ce_post : Tryd.prog.cellsOf 44 = 2 := by kernel_rfl

theorem inI64_of {n : Int} (h : (Lit.int .i64 n).wf = true) : inI64 n := by
  simp only [Lit.wf,Bool.and_eq_true,decide_eq_true_eq,IntKind.min,IntKind.max] at h
  unfold inI64
  simp [IntKind.signed, IntKind.bits] at h
  omega

section
variable {H : Type} {enc : TypeId × Value → H}

theorem by_int : Tryd.prog.bytesOf 3 = 8 := by kernel_rfl
theorem all_weights {P : Program} {e : TypeId} {p : Nat → Bool} : ∀ (ds : List (DataW H)) (_ : (DataW.weightsAll P e ds).all p = true) (d : DataW H), d ∈ ds → (d.weights P e).all p = true
  | [], _, d, hd => by cases hd
  | x :: ds, h, d, hd => by
    rw [DataW.weightsAll, List.all_append, Bool.and_eq_true] at h
    rcases List.mem_cons.1 hd with rfl | hd
    · exact h.1
    · exact all_weights ds h.2 d hd

theorem ints_inW {m : Map} {A : AHeap} {W : World} (hB : Base Tryd.prog m A W) {n : Nat} {v' : Value} {x : DataW H × List MemPlace} (h : DataW.trod enc Tryd.prog W 0 (fun _ => true) true n 42 [v'] = some x) :
    ∃ m' A' v l, Base Tryd.prog m' A' W ∧ m.le m' ∧ Ext A A' ∧ VRel m' v v' ∧ Ints A' v l ∧ ((x.1.weights Tryd.prog 42).all (· ≤ reachBytes) = true → l.length * 8 ≤ reachBytes) := by
  rcases open_ints Tryd.underlying42 Tryd.underlying3 ce_int h with ⟨hcs, _⟩ | ⟨a, len, cap, zs, hcs, _, hl, hm, hz, hx, hcell, hwz⟩
  · simp only [List.cons.injEq,and_true] at hcs
    subst hcs
    exact ⟨m, A, .slice none 0 0, [], hB, Map.le.refl m, Fr.refl _ _, .nils 0 0, ⟨⟨rfl, .inl ⟨Void.nil, rfl⟩⟩, by simp, by simp⟩, fun _ => by simp⟩
  · simp only [List.cons.injEq,and_true] at hcs
    subst hcs
    simp only [if_true] at hz
    have hlz : (zs.take len).length = len := by rw [List.length_take]; omega
    obtain ⟨m', A', v, h1, h2, h3, h4, h5⟩ := hB.slice (el := 3) ts_int (by omega) hl (ys := fun i => .int .i64 (zs.getD i 0)) (xs := ints (zs.take len)) (fun i hi => hcell i (by omega)) (by simp [ints]; omega) fun i v hv => by
      unfold ints at hv
      rw [List.getElem?_map, Option.map_eq_some_iff] at hv
      obtain ⟨z, hz1, rfl⟩ := hv
      rw [List.getElem?_take] at hz1
      split at hz1
      · rw [List.getD_eq_getElem?_getD, hz1]; exact .int _ _
      · cases hz1
    refine ⟨m', A', v, zs.take len, h1, h2, h3, h4, ⟨by rw [hlz]; exact h5.c, fun y hy => inI64_of (hwz y (List.mem_of_mem_take hy)), ?_⟩, fun hw => ?_⟩
    · have : maxLen < 9223372036854775808 := by decide
      omega
    · subst hx
      simp only [DataW.weights,Tryd.underlying42,List.all_cons,Bool.and_eq_true,decide_eq_true_eq,by_int] at hw
      have h1 := hw.1
      unfold lits at h1
      rw [List.length_map, List.length_map, List.length_drop] at h1
      refine Nat.le_trans ?_ h1
      omega

/-- A family of lists of numbers. -/
theorem family_in {W : World} {n : Nat} {V : Nat → Value} {D : Nat → DataW H} {Pl : Nat → List MemPlace} : ∀ (k : Nat) {m : Map} {A : AHeap} (_ : Base Tryd.prog m A W) (_ : ∀ i, i < k → DataW.trod enc Tryd.prog W 0 (fun _ => true) true n 42 [V i] = some (D i, Pl i)),
    ∃ (m' : Map) (A' : AHeap) (vs : List Value) (ls : List (List Int)), Base Tryd.prog m' A' W ∧ m.le m' ∧ Ext A A' ∧ vs.length = k ∧ ls.length = k ∧ ∀ (i : Nat) (hv : i < vs.length) (hl : i < ls.length), VRel m' vs[i] (V i) ∧ Ints A' vs[i] ls[i] ∧ (((D i).weights Tryd.prog 42).all (· ≤ reachBytes) = true → ls[i].length * 8 ≤ reachBytes)
  | 0, m, A, hB, _ => ⟨m, A, [], [], hB, Map.le.refl m, Fr.refl _ _, rfl, rfl, fun i hv => by simp at hv⟩
  | k + 1, m, A, hB, h => by
    obtain ⟨m1, A1, vs, ls, h1, h2, h3, h4, h5, h6⟩ := family_in k hB fun i hi => h i (by omega)
    obtain ⟨m2, A2, v, l, k1, k2, k3, k4, k5, k6⟩ := ints_inW h1 (h k (by omega))
    refine ⟨m2, A2, vs ++ [v], ls ++ [l], k1, h2.trans k2, h3.trans k3, by simp [h4], by simp [h5], fun i hv hl => ?_⟩
    by_cases hi : i < k
    · rw [List.getElem_append_left (by omega), List.getElem_append_left (by omega)]
      obtain ⟨g1, g2, g3⟩ := h6 i (by omega) (by omega)
      exact ⟨g1.mono k2, g2.fr k3, g3⟩
    · have hk : i = k := by simp at hv; omega
      subst hk
      rw [List.getElem_append_right (by omega), List.getElem_append_right (by omega)]
      simp only [h4,h5,Nat.sub_self,List.getElem_cons_zero]
      exact ⟨k4, k5, k6⟩

theorem posts_inW {m : Map} {A : AHeap} {W : World} (hB : Base Tryd.prog m A W) {n : Nat} {v' : Value} {x : DataW H × List MemPlace} (h : DataW.trod enc Tryd.prog W 0 (fun _ => true) true n 22 [v'] = some x) :
    ∃ m' A' v l, Base Tryd.prog m' A' W ∧ m.le m' ∧ Ext A A' ∧ VRel m' v v' ∧ Posts A' v l ∧ ((x.1.weights Tryd.prog 22).all (· ≤ reachBytes) = true → ∀ p ∈ l, p.2.length * 8 ≤ reachBytes) := by
  rcases open_slice_pairs Tryd.underlying22 Tryd.underlying44 ce_post rfl rfl ce_int64 ce_ints h with ⟨hcs, _⟩ | ⟨a, len, cap, mm, n', V0, V1, D0, D1, P0, P1, hcs, _, hl, hm, hmm, hx, hel⟩
  · simp only [List.cons.injEq,and_true] at hcs
    subst hcs
    exact ⟨m, A, .slice none 0 0, [], hB, Map.le.refl m, Fr.refl _ _, .nils 0 0, ⟨[], rfl, ⟨rfl, .inl ⟨Void.nil, rfl⟩⟩, fun i h => by simp at h, by simp⟩, fun _ => by simp⟩
  · simp only [List.cons.injEq,and_true] at hcs
    subst hcs
    simp only [if_true] at hmm
    subst hmm
    obtain ⟨m1, A1, vs, ls, h1, h2, h3, h4, h5, h6⟩ := family_in (enc := enc) (V := V1) (D := D1) (Pl := P1) len hB fun i hi => (hel i (by omega)).2.2.2
    have hdoc : ∀ i, i < len → ∃ d, V0 i = .int .i64 d ∧ inI64 d := fun i hi => by
      obtain ⟨d, e1, _, e3⟩ := DataW.trod_int Tryd.underlying2 (hel i (by omega)).2.2.1
      simp only [List.cons.injEq,and_true] at e1
      exact ⟨d, e1, inI64_of e3⟩
    let doc : Nat → Int := fun i => match V0 i with | .int _ d => d | _ => 0
    have hdoc' : ∀ i, i < len → V0 i = .int .i64 (doc i) ∧ inI64 (doc i) := fun i hi => by
      obtain ⟨d, e1, e2⟩ := hdoc i hi
      simp only [doc,e1]
      exact ⟨trivial, e2⟩
    obtain ⟨L, hLd⟩ : ∃ L : List PostL, L = List.zipWith (fun i l => (doc i, l)) (List.range len) ls := ⟨_, rfl⟩
    have hL : L.length = len := by simp [hLd, h5]
    have hLi : ∀ (i : Nat) (hi : i < L.length) (hi' : i < ls.length), L[i] = (doc i, ls[i]) := fun i hi hi' => by simp [hLd]
    have hpl : (postCells L vs).length = len * 2 := by
      have : ∀ (l : List PostL) (us : List Value), us.length = l.length → (postCells l us).length = l.length * 2 := by
        intro l
        induction l with
        | nil => intro us _; simp [postCells]
        | cons q l ih =>
          intro us hus
          cases us with
          | nil => simp at hus
          | cons u us =>
            have := ih us (by simpa using hus)
            simp only [postCells,List.zip_cons_cons,List.flatMap_cons,List.length_append,List.length_cons,List.length_nil] at this ⊢
            omega
      rw [this L vs (by omega), hL]
    obtain ⟨m', A', v, k1, k2, k3, k4, k5⟩ := h1.slice (el := 44) ts_post (by omega) hl (ys := fun i => if i % 2 = 0 then V0 (i / 2) else V1 (i / 2)) (xs := postCells L vs)
      (fun i hi => by
        obtain ⟨g1, g2, _⟩ := hel (i / 2) (by omega)
        by_cases hc : i % 2 = 0
        · simp only [if_pos hc]
          rw [← g1]
          congr 2; omega
        · simp only [if_neg hc]
          rw [← g2]
          congr 2; omega)
      hpl (fun i v hv => by
        have hi : i < len * 2 := by
          rcases Nat.lt_or_ge i (len * 2) with h | h
          · exact h
          · rw [List.getElem?_eq_none (by omega)] at hv; cases hv
        have hj : i / 2 < L.length := by omega
        have hjv : i / 2 < vs.length := by omega
        obtain ⟨g1, _⟩ := postCells_get L vs (i / 2) hj hjv
        have hv2 : (((postCells L vs).drop (i / 2 * 2)).take 2)[i % 2]? = some v := by
          rw [List.getElem?_take, if_pos (by omega), List.getElem?_drop, ← hv]
          congr 1; omega
        rw [g1] at hv2
        by_cases hc : i % 2 = 0
        · simp only [if_pos hc]
          rw [hc] at hv2
          simp only [List.getElem?_cons_zero,Option.some.injEq] at hv2
          subst hv2
          rw [hLi _ hj (by omega), (hdoc' (i / 2) (by omega)).1]
          exact .int _ _
        · simp only [if_neg hc]
          have h1' : i % 2 = 1 := by omega
          rw [h1'] at hv2
          simp only [List.getElem?_cons_succ,List.getElem?_cons_zero,Option.some.injEq] at hv2
          subst hv2
          exact (h6 (i / 2) hjv (by omega)).1)
    refine ⟨m', A', v, L, k1, h2.trans k2, h3.trans k3, k4, ⟨vs, by omega, by rw [hL]; exact k5.c, fun i hi hi' => ?_, ?_⟩, fun hw p hp => ?_⟩
    · rw [hLi i hi (by omega)]
      exact ⟨(h6 i hi' (by omega)).2.1.fr k3, (hdoc' i (by omega)).2⟩
    · have : maxLen ≤ 9223372036854775807 := by decide
      omega
    · obtain ⟨i, hi, rfl⟩ := List.getElem_of_mem hp
      rw [hLi i hi (by omega)]
      refine (h6 i (by omega) (by omega)).2.2 ?_
      subst hx
      simp only [DataW.weights,Tryd.underlying22,List.all_cons,Bool.and_eq_true,List.all_append] at hw
      have h1 := all_weights _ hw.2.1 (.agg [D0 i, D1 i]) (List.mem_map.2 ⟨i, List.mem_range.2 (by omega), rfl⟩)
      simp only [DataW.weights,Tryd.underlying44,List.map_cons,List.map_nil,DataW.weightsEach,List.all_append,Bool.and_eq_true,List.append_nil] at h1
      exact h1.2
theorem ints_in {m : Map} {A : AHeap} {W : World} (hB : Base Tryd.prog m A W) {n : Nat} {v' : Value} {x : DataW H × List MemPlace} (h : DataW.trod enc Tryd.prog W 0 (fun _ => true) true n 42 [v'] = some x) :
    ∃ m' A' v l, Base Tryd.prog m' A' W ∧ m.le m' ∧ Ext A A' ∧ VRel m' v v' ∧ Ints A' v l := by
  obtain ⟨m', A', v, l, h1, h2, h3, h4, h5, _⟩ := ints_inW hB h
  exact ⟨m', A', v, l, h1, h2, h3, h4, h5⟩
theorem posts_in {m : Map} {A : AHeap} {W : World} (hB : Base Tryd.prog m A W) {n : Nat} {v' : Value} {x : DataW H × List MemPlace} (h : DataW.trod enc Tryd.prog W 0 (fun _ => true) true n 22 [v'] = some x) :
    ∃ m' A' v l, Base Tryd.prog m' A' W ∧ m.le m' ∧ Ext A A' ∧ VRel m' v v' ∧ Posts A' v l := by
  obtain ⟨m', A', v, l, h1, h2, h3, h4, h5, _⟩ := posts_inW hB h
  exact ⟨m', A', v, l, h1, h2, h3, h4, h5⟩
end
end Go.Sh
