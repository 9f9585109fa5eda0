/- Shadow, part 27: lists of posts out of bytes, and as bytes: what is taken is the one form. -/
import Derived.Test.YteoefjahcbfpeaaSh2A
namespace Go.Sh
open Go

/-- Places out of bytes: error, what is left, places. -/
def pF : Nat → Nat → Nat → Nat → List UInt8 → List Int → Nat × List UInt8 × List Int
  | 0, _, _, _, s, acc => (99, s, acc)
  | f + 1, k, n, ahead, s, acc =>
    if k < n then
      if (rdU 0 0 s).2.2 = 0 then
        if (0 < (rdU 0 0 s).1 ∨ k = 0) ∧ (rdU 0 0 s).1 ≤ 9223372036854775807 - ahead then
          pF f (k + 1) n (ahead + (rdU 0 0 s).1) (s.drop (rdU 0 0 s).2.1) (acc ++ [((ahead + (rdU 0 0 s).1 : Nat) : Int)])
        else (4, s.drop (rdU 0 0 s).2.1, acc)
      else ((rdU 0 0 s).2.2, s, acc)
    else (0, s, acc)

/-- Posts out of bytes. -/
def eF : Nat → Nat → Nat → Int → List UInt8 → List (Int × List Int) → Nat × List UInt8 × List (Int × List Int)
  | 0, _, _, _, s, acc => (99, s, acc)
  | f + 1, i, n, doc, s, acc =>
    if i < n then
      if (rdU 0 0 s).2.2 = 0 then
        if i = 0 ∨ (0 < (rdU 0 0 s).1 ∧ ((rdU 0 0 s).1 : Int) ≤ 9223372036854775807 - doc) then
          if (rdU 0 0 (s.drop (rdU 0 0 s).2.1)).2.2 = 0 then
            if (pF ((s.drop (rdU 0 0 s).2.1).drop (rdU 0 0 (s.drop (rdU 0 0 s).2.1)).2.1).length.succ 0 (rdU 0 0 (s.drop (rdU 0 0 s).2.1)).1 0 ((s.drop (rdU 0 0 s).2.1).drop (rdU 0 0 (s.drop (rdU 0 0 s).2.1)).2.1) []).1 = 0 then
              eF f (i + 1) n (if i = 0 then zagN (rdU 0 0 s).1 else doc + (rdU 0 0 s).1)
                (pF ((s.drop (rdU 0 0 s).2.1).drop (rdU 0 0 (s.drop (rdU 0 0 s).2.1)).2.1).length.succ 0 (rdU 0 0 (s.drop (rdU 0 0 s).2.1)).1 0 ((s.drop (rdU 0 0 s).2.1).drop (rdU 0 0 (s.drop (rdU 0 0 s).2.1)).2.1) []).2.1
                (acc ++ [(if i = 0 then zagN (rdU 0 0 s).1 else doc + (rdU 0 0 s).1, (pF ((s.drop (rdU 0 0 s).2.1).drop (rdU 0 0 (s.drop (rdU 0 0 s).2.1)).2.1).length.succ 0 (rdU 0 0 (s.drop (rdU 0 0 s).2.1)).1 0 ((s.drop (rdU 0 0 s).2.1).drop (rdU 0 0 (s.drop (rdU 0 0 s).2.1)).2.1) []).2.2)])
            else ((pF ((s.drop (rdU 0 0 s).2.1).drop (rdU 0 0 (s.drop (rdU 0 0 s).2.1)).2.1).length.succ 0 (rdU 0 0 (s.drop (rdU 0 0 s).2.1)).1 0 ((s.drop (rdU 0 0 s).2.1).drop (rdU 0 0 (s.drop (rdU 0 0 s).2.1)).2.1) []).1, s, acc)
          else ((rdU 0 0 (s.drop (rdU 0 0 s).2.1)).2.2, s, acc)
        else (4, s, acc)
      else ((rdU 0 0 s).2.2, s, acc)
    else (0, s, acc)

def aF (s : List UInt8) : Nat × List (Int × List Int) :=
  if (rdU 0 0 s).2.2 = 0 then
    if (eF s.length.succ 0 (rdU 0 0 s).1 0 (s.drop (rdU 0 0 s).2.1) []).1 = 0 then
      (if (eF s.length.succ 0 (rdU 0 0 s).1 0 (s.drop (rdU 0 0 s).2.1) []).2.1 = [] then 0 else 3, (eF s.length.succ 0 (rdU 0 0 s).1 0 (s.drop (rdU 0 0 s).2.1) []).2.2)
    else ((eF s.length.succ 0 (rdU 0 0 s).1 0 (s.drop (rdU 0 0 s).2.1) []).1, [])
  else ((rdU 0 0 s).2.2, [])

/-! ### As bytes -/
def encP : Int → List Int → List UInt8
  | _, [] => []
  | a, x :: l => uintL (x - a).toNat ++ encP x l
def encD : Bool → Int → List (Int × List Int) → List UInt8
  | _, _, [] => []
  | b, d, p :: l => uintL (if b then (zigN p.1).toNat else (p.1 - d).toNat) ++ (uintL p.2.length ++ (encP 0 p.2 ++ encD false p.1 l))

def upFrom (a : Int) : List Int → Prop
  | [] => True
  | x :: l => a < x ∧ x ≤ 9223372036854775807 ∧ upFrom x l
def placesUp : List Int → Prop
  | [] => True
  | x :: l => 0 ≤ x ∧ x ≤ 9223372036854775807 ∧ upFrom x l
theorem upFrom_all : ∀ (l : List Int) (a : Int), upFrom a l → (∀ x ∈ l, a < x ∧ x ≤ 9223372036854775807) ∧ l.Pairwise fun p q => p < q
  | [], a, _ => ⟨fun x hx => (by cases hx), List.Pairwise.nil⟩
  | y :: l, a, ⟨h1, h2, h3⟩ => by
    obtain ⟨k1, k2⟩ := upFrom_all l y h3
    refine ⟨fun x hx => ?_, List.pairwise_cons.2 ⟨fun x hx => (k1 x hx).1, k2⟩⟩
    rcases List.mem_cons.1 hx with rfl | hx
    · exact ⟨h1, h2⟩
    · have := k1 x hx; exact ⟨by omega, this.2⟩
theorem placesUp_all {l : List Int} (h : placesUp l) : (∀ x ∈ l, 0 ≤ x ∧ x ≤ 9223372036854775807) ∧ l.Pairwise fun p q => p < q := by
  cases l with
  | nil => exact ⟨fun x hx => (by cases hx), List.Pairwise.nil⟩
  | cons y l =>
    obtain ⟨h1, h2, h3⟩ := h
    obtain ⟨k1, k2⟩ := upFrom_all l y h3
    refine ⟨fun x hx => ?_, List.pairwise_cons.2 ⟨fun x hx => (k1 x hx).1, k2⟩⟩
    rcases List.mem_cons.1 hx with rfl | hx
    · exact ⟨h1, h2⟩
    · have := k1 x hx; exact ⟨by omega, this.2⟩

theorem trip1 {β γ : Type} {a : Nat × β × γ} (h : a.1 = 0) : a = (0, a.2.1, a.2.2) := by
  obtain ⟨x, y, z⟩ := a
  simp only at h
  rw [h]
theorem trip3 {α β : Type} {a : α × β × Nat} (h : a.2.2 = 0) : a = (a.1, a.2.1, 0) := by
  obtain ⟨x, y, z⟩ := a
  simp only at h
  rw [h]

theorem rdU_one {s : List UInt8} (h : (rdU 0 0 s).2.2 = 0) : s = uintL (rdU 0 0 s).1 ++ s.drop (rdU 0 0 s).2.1 ∧ (s.drop (rdU 0 0 s).2.1).length < s.length ∧ (rdU 0 0 s).1 < 18446744073709551616 ∧ 0 < (rdU 0 0 s).2.1 ∧ (rdU 0 0 s).2.1 ≤ s.length := by
  obtain ⟨q, h1, h2, h3, h4, _, h6⟩ := rdU_canon s 0 0 (rdU 0 0 s).1 (rdU 0 0 s).2.1 (by omega) (by simp) (trip3 h)
  simp only [Nat.sub_zero, Nat.mul_zero, Nat.pow_zero, Nat.mul_one, Nat.zero_add] at h1 h2 h3 h4
  refine ⟨?_, by rw [List.length_drop]; omega, h6, by omega, h2⟩
  rw [h4, ← h3, List.take_append_drop]

theorem pF_canon : ∀ (f k n ahead : Nat) (s : List UInt8) (acc : List Int) (rest : List UInt8) (L : List Int), ahead ≤ 9223372036854775807 → pF f k n ahead s acc = (0, rest, L) →
    ∃ l : List Int, L = acc ++ l ∧ l.length = n - k ∧ s = encP ahead l ++ rest ∧ (0 < k → upFrom ahead l) ∧ (k = 0 → ahead = 0 → placesUp l)
  | 0, k, n, ahead, s, acc, rest, L, _, h => by simp [pF] at h
  | f + 1, k, n, ahead, s, acc, rest, L, ha, h => by
    rw [pF] at h
    split at h
    · rename_i hk
      split at h
      · rename_i he
        split at h
        · rename_i hc
          obtain ⟨l, h1, h2, h3, h4, _⟩ := pF_canon f (k + 1) n _ _ _ rest L (by omega) h
          obtain ⟨g1, _, _, _⟩ := rdU_one he
          have hup := h4 (by omega)
          refine ⟨((ahead + (rdU 0 0 s).1 : Nat) : Int) :: l, by rw [h1, List.append_assoc]; rfl, by simp; omega, ?_, fun hk0 => ⟨by omega, by omega, hup⟩, fun hk0 h0 => ⟨by omega, by omega, hup⟩⟩
          rw [encP, List.append_assoc, ← h3, show (((ahead + (rdU 0 0 s).1 : Nat) : Int) - ahead).toNat = (rdU 0 0 s).1 by omega]
          exact g1
        · simp at h
      · simp only [Prod.mk.injEq] at h
        rename_i he
        exact absurd h.1 he
    · rename_i hk
      simp only [Prod.mk.injEq, true_and] at h
      obtain ⟨rfl, rfl⟩ := h
      exact ⟨[], by simp, by simp; omega, rfl, fun _ => trivial, fun _ _ => trivial⟩

/-- Documents rising, places likewise, all in their bounds. -/
def docsUp : Bool → Int → List (Int × List Int) → Prop
  | _, _, [] => True
  | b, d, p :: l => (b = false → d < p.1) ∧ -9223372036854775808 ≤ p.1 ∧ p.1 ≤ 9223372036854775807 ∧ placesUp p.2 ∧ docsUp false p.1 l

theorem eF_canon : ∀ (f i n : Nat) (doc : Int) (s : List UInt8) (acc : List (Int × List Int)) (rest : List UInt8) (L : List (Int × List Int)), (-9223372036854775808 ≤ doc ∧ doc ≤ 9223372036854775807) → eF f i n doc s acc = (0, rest, L) →
    ∃ l : List (Int × List Int), L = acc ++ l ∧ l.length = n - i ∧ s = encD (decide (i = 0)) doc l ++ rest ∧ docsUp (decide (i = 0)) doc l
  | 0, i, n, doc, s, acc, rest, L, _, h => by simp [eF] at h
  | f + 1, i, n, doc, s, acc, rest, L, hd, h => by
    rw [eF] at h
    split at h
    · split at h
      · rename_i he
        split at h
        · rename_i hc
          split at h
          · rename_i he1
            split at h
            · rename_i hp
              obtain ⟨g1, _, g3, _⟩ := rdU_one he
              obtain ⟨k1, _, k3, _⟩ := rdU_one he1
              have hzag : -9223372036854775808 ≤ zagN (rdU 0 0 s).1 ∧ zagN (rdU 0 0 s).1 ≤ 9223372036854775807 := by unfold zagN; split <;> omega
              have hzz := zig_zag (u := (rdU 0 0 s).1) (by omega)
              generalize rdU 0 0 s = r at *
              generalize s.drop r.2.1 = s1 at *
              generalize rdU 0 0 s1 = r1 at *
              generalize s1.drop r1.2.1 = s2 at *
              have hpc := pF_canon s2.length.succ 0 r1.1 0 s2 []
              generalize pF s2.length.succ 0 r1.1 0 s2 [] = p at *
              obtain ⟨l2, j1, j2, j3, _, j5⟩ := hpc p.2.1 p.2.2 (by omega) (trip1 hp)
              have j6 := j5 rfl rfl
              simp only [List.nil_append, Nat.sub_zero] at j1 j2
              obtain ⟨l, m1, m2, m3, m4⟩ := eF_canon f (i + 1) n _ _ _ rest L (by split <;> omega) h
              have hi1 : decide (i + 1 = 0) = false := decide_eq_false (by omega)
              rw [hi1] at m3 m4
              refine ⟨(if i = 0 then zagN r.1 else doc + r.1, p.2.2) :: l, by rw [m1, List.append_assoc]; rfl, by simp; omega, ?_, ?_⟩
              · rw [encD]
                simp only [List.append_assoc]
                rw [← m3, j1, ← show s2 = encP 0 l2 ++ p.2.1 from j3, j2, ← k1]
                have : (if decide (i = 0) = true then (zigN (if i = 0 then zagN r.1 else doc + r.1)).toNat else ((if i = 0 then zagN r.1 else doc + r.1) - doc).toNat) = r.1 := by
                  by_cases h0 : i = 0
                  · simp only [h0, decide_true, if_true]; rw [hzz]; omega
                  · simp only [h0, decide_false, if_false, Bool.false_eq_true]; omega
                rw [this]
                exact g1
              · refine ⟨fun h0 => ?_, ?_, ?_, by rw [j1]; exact j6, m4⟩
                · have h0' : ¬ i = 0 := by simpa using h0
                  simp only [if_neg h0']
                  omega
                · simp only; split <;> omega
                · simp only; split <;> omega
            · rename_i hp; simp only [Prod.mk.injEq] at h; exact absurd h.1 hp
          · rename_i hp; simp only [Prod.mk.injEq] at h; exact absurd h.1 hp
        · simp at h
      · rename_i hp; simp only [Prod.mk.injEq] at h; exact absurd h.1 hp
    · simp only [Prod.mk.injEq, true_and] at h
      obtain ⟨rfl, rfl⟩ := h
      exact ⟨[], by simp, by simp; omega, rfl, trivial⟩

theorem docsUp_all : ∀ (l : List (Int × List Int)) (b : Bool) (d : Int), docsUp b d l → (∀ p ∈ l, (b = false → d < p.1) ∧ -9223372036854775808 ≤ p.1 ∧ p.1 ≤ 9223372036854775807 ∧ placesUp p.2) ∧ l.Pairwise fun p q => p.1 < q.1
  | [], b, d, _ => ⟨fun x hx => (by cases hx), List.Pairwise.nil⟩
  | y :: l, b, d, ⟨h1, h2, h3, h4, h5⟩ => by
    obtain ⟨k1, k2⟩ := docsUp_all l false y.1 h5
    refine ⟨fun x hx => ?_, List.pairwise_cons.2 ⟨fun x hx => (k1 x hx).1 rfl, k2⟩⟩
    rcases List.mem_cons.1 hx with rfl | hx
    · exact ⟨h1, h2, h3, h4⟩
    · have := k1 x hx
      exact ⟨fun hb => by have := h1 hb; have := (k1 x hx).1 rfl; omega, this.2⟩

def encL (l : List (Int × List Int)) : List UInt8 := uintL l.length ++ encD true 0 l

/-- What is taken is the one form. -/
theorem aF_canon {s : List UInt8} {l : List (Int × List Int)} (h : aF s = (0, l)) : s = encL l ∧ docsUp true 0 l := by
  unfold aF at h
  split at h
  · rename_i he
    obtain ⟨g1, _⟩ := rdU_one he
    split at h
    · rename_i hq
      simp only [Prod.mk.injEq] at h
      obtain ⟨h1, h2⟩ := h
      obtain ⟨l', m1, m2, m3, m4⟩ := eF_canon s.length.succ 0 (rdU 0 0 s).1 0 (s.drop (rdU 0 0 s).2.1) [] _ _ (by omega) (trip1 hq)
      simp only [List.nil_append, Nat.sub_zero, decide_true] at m1 m2 m3 m4
      rw [h2] at m1
      subst m1
      split at h1
      · rename_i hr
        rw [hr, List.append_nil] at m3
        refine ⟨?_, m4⟩
        unfold encL
        rw [m2, ← m3]
        exact g1
      · cases h1
    · rename_i hp; simp only [Prod.mk.injEq] at h; exact absurd h.1 hp
  · rename_i hp; simp only [Prod.mk.injEq] at h; exact absurd h.1 hp
end Go.Sh
