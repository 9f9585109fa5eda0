/- Lists that are all one's own; what the functions of two lists answer. -/
import Derived.Test.YteoefjahcbfpeaaGreatSpAt
import Derived.Test.YteoefjahcbfpeaaGreatSpKl
namespace Go.Sh
open Go Go.Proofs
set_option linter.unusedSimpArgs false
set_option linter.unusedVariables false
set_option maxRecDepth 4000

def sLen : Value → Nat
  | .slice _ n _ => n
  | _ => 0
def sCap : Value → Nat
  | .slice _ _ c => c
  | _ => 0
/-- A slice of one's own, by its own numbers. -/
def OwnV (A : AHeap) (el sz : Nat) (v : Value) : Prop := OwnS A el sz v (sLen v) (sCap v) ∧ sCap v ≤ sLen v + 16 ∧ sLen v ≤ 1000000000
theorem OwnV.lt {A : AHeap} {el sz : Nat} {v : Value} (h : OwnV A el sz v) {b : Nat} (hb : blockOf v b) : b < A.next := by
  obtain ⟨r, _, h2, _⟩ := h.1.row hb
  exact h2
theorem OwnV.fr {M : Nat → Prop} {A A' : AHeap} {el sz : Nat} {v : Value} (h : OwnV A el sz v) (hF : Fr M A A') (hm : ∀ b, blockOf v b → ¬ M b) : OwnV A' el sz v := by
  refine ⟨⟨h.1.1, ?_⟩, h.2⟩
  rcases h.1.2 with h1 | ⟨b, r, h1, h2, h3, h4⟩
  · exact .inl h1
  · exact .inr ⟨b, r, h1, Nat.lt_of_lt_of_le h2 hF.next, by rw [hF.same b h2 (hm b (by rw [h1]; rfl))]; exact h3, h4⟩
theorem OwnV.nbox {A : AHeap} {el sz : Nat} {v : Value} (h : OwnV A el sz v) {b : Nat} (hb : blockOf v b) {t : Nat} {cells : List Value} (hB : Box A b t cells) : False := by
  obtain ⟨r, _, _, h3, _, h5, _⟩ := h.1.row hb
  rw [hB.2] at h3
  cases h3
  cases h5
theorem OwnV.of_acc {A : AHeap} {el sz n : Nat} {v : Value} {cells : List Value} (h : Acc A el sz v n cells) (hn : n ≤ 1000000000) : OwnV A el sz v := by
  rcases h.2 with ⟨rfl, h0⟩ | ⟨b, rfl, h1, ch, fz, h2⟩
  · exact ⟨⟨Nat.le_refl _, .inl ⟨rfl, rfl⟩⟩, by simp [sLen, sCap], by simp [sLen]⟩
  · exact ⟨⟨Nat.le_refl _, .inr ⟨b, _, rfl, h1, h2, rfl, rfl, rfl, h.1⟩⟩, Nat.le_add_right _ _, hn⟩
theorem OwnV.of_app {A : AHeap} {el sz n c : Nat} {b : Nat} {cells : List Value} (h : App A b el cells) (hc : cells.length = c * sz) (hn : n ≤ c) (hcn : c ≤ n + 16) (hn9 : n ≤ 1000000000) : OwnV A el sz (.slice (some ⟨b, 0, none⟩) n c) := by
  obtain ⟨h1, ch, fz, h2⟩ := h
  exact ⟨⟨hn, .inr ⟨b, _, rfl, h1, h2, rfl, rfl, rfl, hc⟩⟩, hcn, hn9⟩

/-- A list of posts: the slice, the slices of places. -/
structure It where
  v : Value
  us : List Value

/-- What comes together: all of its own, above B. -/
def Col (B : Nat) (A : AHeap) (its : List It) : Prop :=
  (∀ t ∈ its, (OwnV A 61 2 t.v ∧ ∀ b, blockOf t.v b → B ≤ b) ∧ ∀ u ∈ t.us, OwnV A 3 1 u ∧ ∀ b, blockOf u b → B ≤ b) ∧ Dis (its.map (·.v)) ∧ Dis (its.flatMap (·.us))
theorem Col.nil (B : Nat) (A : AHeap) : Col B A [] := ⟨fun _ h => by simp at h, Dis.nil, Dis.nil⟩
theorem Col.lt {B : Nat} {A : AHeap} {its : List It} (h : Col B A its) {t : It} (ht : t ∈ its) : (∀ b, blockOf t.v b → b < A.next) ∧ ∀ u ∈ t.us, ∀ b, blockOf u b → b < A.next :=
  ⟨fun b hb => (h.1 t ht).1.1.lt hb, fun u hu b hb => ((h.1 t ht).2 u hu).1.lt hb⟩
theorem Col.fr {B : Nat} {M : Nat → Prop} {A A' : AHeap} {its : List It} (h : Col B A its) (hF : Fr M A A') (hm : ∀ b, b < A.next → M b → ∃ t cells, Box A b t cells) : Col B A' its := by
  refine ⟨fun t ht => ?_, h.2⟩
  obtain ⟨⟨h1, h2⟩, h3⟩ := h.1 t ht
  refine ⟨⟨h1.fr hF fun b hb hc => ?_, h2⟩, fun u hu => ⟨(h3 u hu).1.fr hF fun b hb hc => ?_, (h3 u hu).2⟩⟩
  · obtain ⟨_, _, hB⟩ := hm b (h1.lt hb) hc
    exact h1.nbox hb hB
  · obtain ⟨_, _, hB⟩ := hm b ((h3 u hu).1.lt hb) hc
    exact (h3 u hu).1.nbox hb hB
theorem Col.add {B : Nat} {M : Nat → Prop} {A A' : AHeap} {its : List It} (h : Col B A its) (hF : Fr M A A') (hm : ∀ b, b < A.next → M b → ∃ t cells, Box A b t cells) (hB : B ≤ A.next) {t : It} (hv : OwnV A' 61 2 t.v ∧ ∀ b, blockOf t.v b → A.next ≤ b)
    (hu : ∀ u ∈ t.us, OwnV A' 3 1 u ∧ ∀ b, blockOf u b → A.next ≤ b) (hd : Dis t.us) : Col B A' (its ++ [t]) := by
  have hlt := fun s hs => h.lt (t := s) hs
  have h' := h.fr hF hm
  refine ⟨fun s hs => ?_, ?_, ?_⟩
  · rcases List.mem_append.1 hs with h1 | h1
    · exact h'.1 s h1
    · simp only [List.mem_singleton] at h1
      subst h1
      exact ⟨⟨hv.1, fun b hb => Nat.le_trans hB (hv.2 b hb)⟩, fun u hu' => ⟨(hu u hu').1, fun b hb => Nat.le_trans hB ((hu u hu').2 b hb)⟩⟩
  · rw [List.map_append]
    refine h.2.1.snoc fun i hi b hb hc => ?_
    have hi' : i < its.length := by simpa using hi
    rw [List.getElem_map] at hb
    have := (hlt _ (List.getElem_mem hi')).1 b hb
    have := hv.2 b hc
    omega
  · rw [List.flatMap_append]
    refine List.pairwise_append.2 ⟨h.2.2, by rw [List.flatMap_cons, List.flatMap_nil, List.append_nil]; exact hd, fun x hx y hy b hb hc => ?_⟩
    obtain ⟨s, hs, hxs⟩ := List.mem_flatMap.1 hx
    have := (hlt s hs).2 x hxs b hb
    have := (hu y (by simpa using hy)).2 b hc
    omega
theorem Dis.perm {vs ws : List Value} (h : Dis vs) (hp : vs.Perm ws) : Dis ws := (hp.pairwise_iff (fun {x y} hxy b hb hc => hxy b hc hb)).1 h
theorem Col.perm {B : Nat} {A : AHeap} {its ts : List It} (h : Col B A its) (hp : its.Perm ts) : Col B A ts :=
  ⟨fun t ht => h.1 t (hp.mem_iff.2 ht), h.2.1.perm (hp.map _), h.2.2.perm (hp.flatMap_right _)⟩

/-- All at once, to be written over. -/
theorem Col.apIn {A0 A : AHeap} {el tg sz : Nat} {lsv : Value} {vs : List Value} (hacc : Acc A tg 1 lsv vs.length vs) (hown : ∀ u ∈ vs, OwnV A el sz u ∧ ∀ b, blockOf u b → A0.next ≤ b) (hne : ∀ u ∈ vs, ∀ b, blockOf u b → ¬ blockOf lsv b) (hd : Dis vs) (hch : ChOK A0 A) (ho : Old A0 A) (hle : A0.next ≤ A.next) (hl : vs.length ≤ 100000000) :
    ApIn A0 A el tg sz lsv vs (fun j => sLen (vs.getD j undef)) (fun j => sCap (vs.getD j undef)) := by
  have hg : ∀ j (h : j < vs.length), vs.getD j undef = vs[j] := fun j h => by rw [List.getD_eq_getElem?_getD, List.getElem?_eq_getElem h]; rfl
  refine ⟨hacc, fun j h => ?_, fun j h b hb => ?_, hd, hch, ho, hle, hl, fun j h => ?_⟩
  · rw [hg j h]; exact (hown _ (List.getElem_mem h)).1.1
  · exact ⟨(hown _ (List.getElem_mem h)).2 b hb, hne _ (List.getElem_mem h) b hb⟩
  · rw [hg j h]; exact (hown _ (List.getElem_mem h)).1.2

/-! ### From what is answered -/
theorem PRd.dk {A A' : AHeap} {v : Value} {ds : List Int} {us : List Value} (h : PRd A v ds us) (hd : ∀ b el cells, Dat A b el cells → Dat A' b el cells) : PRd A' v ds us := by
  obtain ⟨o, c, h1, h2, h3⟩ := h
  refine ⟨o, c, h1, h2, fun i hi hi' => ?_⟩
  obtain ⟨k1, b, k2, k3⟩ := h3 i hi hi'
  exact ⟨k1, b, k2, fun H hH => k3 H fun b el cells hb => hH _ _ _ (hd _ _ _ hb)⟩
theorem PRd.of {A : AHeap} {l : List PostL} {us : List Value} {b : Nat} {c : Nat} {l' : List PostL} {us' : List Value} (hu : us.length = l.length) (hu' : us'.length = l'.length) (hd : Dat A b 61 (postCells (l ++ l') (us ++ us'))) (hs : ∀ u ∈ us, ∃ o n c, u = .slice o n c) :
    PRd A (.slice (some ⟨b, 0, none⟩) l.length c) (l.map (·.1)) us := by
  refine ⟨some ⟨b, 0, none⟩, c, by rw [hu], by simp [hu], fun i hi hi' => ⟨hs _ (List.getElem_mem hi), b, rfl, fun H hH => ?_⟩⟩
  have hil : i < l.length := by simpa using hi'
  obtain ⟨hc1, hc2⟩ := postCells_get (l ++ l') (us ++ us') i (by simp; omega) (by simp; omega)
  rw [List.getElem_append_left hil, List.getElem_append_left hi] at hc1
  rw [(hH _ _ _ hd).loadAgg (o := i * 2) Tryz.underlying61 rfl ts_post hc2, hc1, List.getElem_map]
theorem POwn.rd {W : Nat → Prop} {A : AHeap} {v : Value} {l : List PostL} {vs : List Value} (h : POwn W A v l vs) : PRd A v (l.map (·.1)) vs := by
  have hs : ∀ u ∈ vs, ∃ o n c, u = .slice o n c := fun u hu => by
    obtain ⟨i, hi, rfl⟩ := List.getElem_of_mem hu
    obtain ⟨o, ho⟩ := (h.2.2.2.1 i (by rw [← h.1]; exact hi) hi).1.1.at
    exact ⟨o, _, _, ho⟩
  rcases h.2.1.2 with ⟨h1, h2⟩ | ⟨b, h1, h2⟩
  · have h0 : vs = [] := List.length_eq_zero_iff.1 (by rw [h.1]; exact h2)
    have h3 : l = [] := List.length_eq_zero_iff.1 h2
    subst h0; subst h3
    exact ⟨none, 0, h1, rfl, fun i hi => by simp at hi⟩
  · rw [h1]
    exact PRd.of (l' := []) (us' := []) h.1 rfl (by simpa using h2.dat) hs
theorem LPosts.rd {W : Nat → Prop} {A : AHeap} {v : Value} {l : List PostL} {vs : List Value} (h : LPosts W A v l vs) : PRd A v (l.map (·.1)) vs := by
  obtain ⟨b, h1, ⟨k1, k2, k3, k4, k5⟩, h3⟩ := h
  have hs : ∀ u ∈ vs, ∃ o n c, u = .slice o n c := fun u hu => by
    obtain ⟨i, hi, rfl⟩ := List.getElem_of_mem hu
    obtain ⟨b, hb, _⟩ := (k4 i (by omega) hi).1
    exact ⟨_, _, _, hb⟩
  rcases k2.2 with ⟨h4, _⟩ | ⟨b', h4, h5⟩
  · cases h4
  · cases h4
    rw [h1]
    exact PRd.of k1 (by simp) h5.dat hs
/-- What is answered joins. -/
theorem Col.res {B : Nat} {A A' : AHeap} {its : List It} {v : Value} {l : List PostL} (h : Col B A its) (hE : Ext A A') (hB : B ≤ A.next) (hr : PRes A A' v l) (hl : ∀ p ∈ l, p.2.length ≤ 1000000000) : ∃ us, Col B A' (its ++ [⟨v, us⟩]) ∧ PRd A' v (l.map (·.1)) us ∧ us.length = l.length := by
  obtain ⟨us, h1, h2⟩ := hr
  refine ⟨us, h.add hE (fun _ _ h => h.elim) hB ⟨OwnV.of_acc h1.2.1 (by omega), h1.2.2.1⟩ (fun u hu => ?_) h1.2.2.2.2, h1.rd, h1.1⟩
  obtain ⟨i, hi, rfl⟩ := List.getElem_of_mem hu
  have hil : i < l.length := by rw [← h1.1]; exact hi
  obtain ⟨k1, _⟩ := h1.2.2.2.1 i hil hi
  exact ⟨OwnV.of_acc k1.1 (hl _ (List.getElem_mem hil)), k1.2.2.2⟩
theorem Col.lent {B : Nat} {A A' : AHeap} {its : List It} {v : Value} {l : List PostL} {us : List Value} (h : Col B A its) (hE : Ext A A') (hB : B ≤ A.next) (hr : LPosts (fun b => A.next ≤ b) A' v l us) : Col B A' (its ++ [⟨v, us⟩]) := by
  obtain ⟨b, h1, ⟨k1, k2, k3, k4, k5⟩, h3⟩ := hr
  subst h1
  refine h.add hE (fun _ _ h => h.elim) hB ⟨?_, k3⟩ (fun u hu => ?_) k5
  · rcases k2.2 with ⟨h4, _⟩ | ⟨b', h4, h5⟩
    · cases h4
    · cases h4
      exact OwnV.of_app h5 k2.1 (by omega) (by omega) (by omega)
  · obtain ⟨i, hi, rfl⟩ := List.getElem_of_mem hu
    have hi' : i < us.length := hi
    obtain ⟨⟨b2, g1, g2, g3, g4, g5⟩, _⟩ := k4 i (by omega) hi
    show OwnV A' 3 1 us[i] ∧ _
    rw [g1]
    refine ⟨OwnV.of_app g2 (by simp [ints, markL_len]) (by omega) (by omega) (by omega), fun b hb => ?_⟩
    have : b2 = b := hb
    subst this
    exact g3

/-! ### The five answers -/
open Classical in
noncomputable def resL (a b : List PostL) (gap : Int) : Nat → List PostL
  | 0 => if wfs a ∧ wfs b then keptL (fun _ _ => true) a b else []
  | 1 => if wfs a ∧ wfs b then keptL (fun x y => x && y) a b else []
  | 2 => if wfs a ∧ wfs b then keptL (fun _ y => !y) a b else []
  | 3 => if wfs b ∧ wfs a then keptL (fun _ y => !y) b a else []
  | _ => if wfs a ∧ wfs b then followL gap a b else []
theorem resL_bound {a b : List PostL} {gap : Int} (i : Nat) (ha : ∀ p ∈ a, p.2.length ≤ 4096) (hb : ∀ p ∈ b, p.2.length ≤ 4096) (la : a.length ≤ 4096) (lb : b.length ≤ 4096) : (resL a b gap i).length ≤ 8192 ∧ ∀ p ∈ resL a b gap i, p.2.length ≤ 8192 := by
  have h0 : ([] : List PostL).length ≤ 8192 ∧ ∀ p ∈ ([] : List PostL), p.2.length ≤ 8192 := ⟨by simp, by simp⟩
  have hK : ∀ sel, (keptL sel a b).length ≤ 8192 ∧ ∀ p ∈ keptL sel a b, p.2.length ≤ 8192 := fun sel => by
    obtain ⟨h1, h2⟩ := kept_bound (sel := sel) ha hb
    exact ⟨by omega, h2⟩
  have hK2 : ∀ sel, (keptL sel b a).length ≤ 8192 ∧ ∀ p ∈ keptL sel b a, p.2.length ≤ 8192 := fun sel => by
    obtain ⟨h1, h2⟩ := kept_bound (sel := sel) hb ha
    exact ⟨by omega, h2⟩
  unfold resL
  split
  · split
    · exact hK _
    · exact h0
  · split
    · exact hK _
    · exact h0
  · split
    · exact hK _
    · exact h0
  · split
    · exact hK2 _
    · exact h0
  · split
    · obtain ⟨h1, h2⟩ := fol_bound (gap := gap) (b := b) ha
      exact ⟨by omega, fun p hp => by have := h2 p hp; omega⟩
    · exact h0
theorem PRes.ite {A0 A : AHeap} {v : Value} {l : List PostL} {c : Prop} [Decidable c] (h1 : c → PRes A0 A v l) (h2 : ¬ c → PRes A0 A v []) : PRes A0 A v (if c then l else []) := by
  split
  · exact h1 ‹_›
  · exact h2 ‹_›
end Go.Sh
