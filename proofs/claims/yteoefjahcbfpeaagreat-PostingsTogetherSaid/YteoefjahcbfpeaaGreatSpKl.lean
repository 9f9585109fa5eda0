/- Plain laws of lists: what is kept, what follows, document by document. -/

import Derived.Test.YteoefjahcbfpeaaGreatSpH
import Derived.Test.YteoefjahcbfpeaaGreatSpY
namespace Go.Sh
open Go Go.Proofs
set_option linter.unusedSimpArgs false
set_option linter.unusedVariables false

/-! ### Two lists at once -/
theorem mrg_comm {X : Type} : ∀ (xs bs : List (Int × X)), mrg bs xs = (mrg xs bs).map fun y => (y.1, y.2.2, y.2.1)
  | [], [] => by simp [mrg]
  | [], b :: bs => by rw [mrg_nilL, mrg_nilR, mrg_comm [] bs]; rfl
  | a :: xs, [] => by rw [mrg_nilL, mrg_nilR, mrg_comm xs []]; rfl
  | a :: xs, b :: bs => by
    by_cases h1 : b.1 < a.1
    · rw [mrg_lt h1, mrg_gt h1, mrg_comm (a :: xs) bs]; rfl
    · by_cases h2 : b.1 = a.1
      · rw [mrg_eq h2, mrg_eq h2.symm, mrg_comm xs bs, List.map_cons, h2]
      · have h3 : a.1 < b.1 := by omega
        rw [mrg_gt h3, mrg_lt h3, mrg_comm xs (b :: bs)]; rfl
termination_by xs bs => xs.length + bs.length

theorem keysUp_cons {X : Type} {a : Int × X} {l : List (Int × X)} : keysUp (a :: l) ↔ (∀ k ∈ l.map (·.1), a.1 < k) ∧ keysUp l := by
  unfold keysUp
  rw [List.pairwise_cons]
  simp only [List.mem_map,forall_exists_index,and_imp,forall_apply_eq_imp_iff₂]

theorem mrg_up {X : Type} : ∀ (xs bs : List (Int × X)), keysUp xs → keysUp bs → keysUp (mrg xs bs)
  | [], [], _, _ => by rw [mrg_nil]; exact List.Pairwise.nil
  | [], b :: bs, h, k => by
    rw [keysUp_cons] at k
    rw [mrg_nilL, keysUp_cons]
    refine ⟨fun x hx => ?_, mrg_up [] bs h k.2⟩
    obtain ⟨y, hy, rfl⟩ := List.mem_map.1 hx
    rcases mem_mrg [] bs y hy with h | h
    · simp at h
    · exact k.1 _ h
  | a :: xs, [], h, k => by
    rw [keysUp_cons] at h
    rw [mrg_nilR, keysUp_cons]
    refine ⟨fun x hx => ?_, mrg_up xs [] h.2 k⟩
    obtain ⟨y, hy, rfl⟩ := List.mem_map.1 hx
    rcases mem_mrg xs [] y hy with h' | h'
    · exact h.1 _ h'
    · simp at h'
  | a :: xs, b :: bs, h0, k0 => by
    have h := keysUp_cons.1 h0
    have k := keysUp_cons.1 k0
    by_cases h1 : b.1 < a.1
    · rw [mrg_lt h1, keysUp_cons]
      refine ⟨fun x hx => ?_, mrg_up (a :: xs) bs h0 k.2⟩
      obtain ⟨y, hy, rfl⟩ := List.mem_map.1 hx
      rcases mem_mrg _ _ y hy with h' | h'
      · rw [List.map_cons, List.mem_cons] at h'
        rcases h' with h' | h'
        · rw [h']; exact h1
        · exact Int.lt_trans h1 (h.1 _ h')
      · exact k.1 _ h'
    · by_cases h2 : b.1 = a.1
      · rw [mrg_eq h2, keysUp_cons]
        refine ⟨fun x hx => ?_, mrg_up xs bs h.2 k.2⟩
        obtain ⟨y, hy, rfl⟩ := List.mem_map.1 hx
        rcases mem_mrg _ _ y hy with h' | h'
        · exact h.1 _ h'
        · rw [← h2]; exact k.1 _ h'
      · have h3 : a.1 < b.1 := by omega
        rw [mrg_gt h3, keysUp_cons]
        refine ⟨fun x hx => ?_, mrg_up xs (b :: bs) h.2 k0⟩
        obtain ⟨y, hy, rfl⟩ := List.mem_map.1 hx
        rcases mem_mrg _ _ y hy with h' | h'
        · exact h.1 _ h'
        · rw [List.map_cons, List.mem_cons] at h'
          rcases h' with h' | h'
          · rw [h']; exact h3
          · exact Int.lt_trans h3 (k.1 _ h')
termination_by xs bs => xs.length + bs.length

theorem mrg_some {X : Type} : ∀ (xs bs : List (Int × X)) (y : Int × Option X × Option X), y ∈ mrg xs bs → (y.2.1.isSome || y.2.2.isSome) = true
  | [], [], y, h => by rw [mrg_nil] at h; cases h
  | [], b :: bs, y, h => by
    rw [mrg_nilL, List.mem_cons] at h
    rcases h with rfl | h
    · rfl
    · exact mrg_some [] bs y h
  | a :: xs, [], y, h => by
    rw [mrg_nilR, List.mem_cons] at h
    rcases h with rfl | h
    · rfl
    · exact mrg_some xs [] y h
  | a :: xs, b :: bs, y, h => by
    by_cases h1 : b.1 < a.1
    · rw [mrg_lt h1, List.mem_cons] at h
      rcases h with rfl | h
      · rfl
      · exact mrg_some _ _ y h
    · by_cases h2 : b.1 = a.1
      · rw [mrg_eq h2, List.mem_cons] at h
        rcases h with rfl | h
        · rfl
        · exact mrg_some _ _ y h
      · rw [mrg_gt (by omega), List.mem_cons] at h
        rcases h with rfl | h
        · rfl
        · exact mrg_some _ _ y h
termination_by xs bs => xs.length + bs.length

/-- Every key of one list is met. -/
theorem mrg_hasL {X : Type} : ∀ (xs bs : List (Int × X)) (p : Int × X), p ∈ xs → ∃ y ∈ mrg xs bs, y.1 = p.1 ∧ y.2.1 = some p.2
  | [], bs, p, h => by cases h
  | a :: xs, [], p, h => by
    rw [mrg_nilR]
    rcases List.mem_cons.1 h with rfl | h
    · exact ⟨_, List.mem_cons_self, rfl, rfl⟩
    · obtain ⟨y, hy, h1⟩ := mrg_hasL xs [] p h
      exact ⟨y, List.mem_cons_of_mem _ hy, h1⟩
  | a :: xs, b :: bs, p, h => by
    by_cases h1 : b.1 < a.1
    · rw [mrg_lt h1]
      obtain ⟨y, hy, h1⟩ := mrg_hasL (a :: xs) bs p h
      exact ⟨y, List.mem_cons_of_mem _ hy, h1⟩
    · by_cases h2 : b.1 = a.1
      · rw [mrg_eq h2]
        rcases List.mem_cons.1 h with rfl | h
        · exact ⟨_, List.mem_cons_self, rfl, rfl⟩
        · obtain ⟨y, hy, h1⟩ := mrg_hasL xs bs p h
          exact ⟨y, List.mem_cons_of_mem _ hy, h1⟩
      · rw [mrg_gt (by omega)]
        rcases List.mem_cons.1 h with rfl | h
        · exact ⟨_, List.mem_cons_self, rfl, rfl⟩
        · obtain ⟨y, hy, h1⟩ := mrg_hasL xs (b :: bs) p h
          exact ⟨y, List.mem_cons_of_mem _ hy, h1⟩
termination_by xs bs => xs.length + bs.length
theorem mrg_hasR {X : Type} (xs bs : List (Int × X)) (p : Int × X) (h : p ∈ bs) : ∃ y ∈ mrg xs bs, y.1 = p.1 ∧ y.2.2 = some p.2 := by
  obtain ⟨y, hy, h1, h2⟩ := mrg_hasL bs xs p h
  rw [mrg_comm, List.mem_map] at hy
  obtain ⟨z, hz, rfl⟩ := hy
  exact ⟨z, hz, h1, h2⟩

/-- In a rising list a key stands once. -/
theorem keysUp_one {X : Type} {l : List (Int × X)} (h : keysUp l) : ∀ p ∈ l, ∀ q ∈ l, p.1 = q.1 → p = q := by
  induction l with
  | nil => intro p hp; cases hp
  | cons a l ih =>
    rw [keysUp_cons] at h
    intro p hp q hq he
    rcases List.mem_cons.1 hp with h1 | h1 <;> rcases List.mem_cons.1 hq with h2 | h2
    · rw [h1, h2]
    · have := h.1 _ (List.mem_map_of_mem h2); rw [h1] at he; omega
    · have := h.1 _ (List.mem_map_of_mem h1); rw [h2] at he; omega
    · exact ih h.2 p h1 q h2 he

theorem findDoc_some {l : List PostL} (h : keysUp l) (d : Int) (v : List Int) : findDoc l d = some v ↔ (d, v) ∈ l := by
  induction l with
  | nil => simp [findDoc]
  | cons p l ih =>
    have h' := keysUp_cons.1 h
    rw [findDoc]
    by_cases hc : p.1 = d
    · rw [if_pos hc]
      constructor
      · intro he; cases he; rw [← hc]; exact List.mem_cons_self
      · intro hm
        have := keysUp_one h p List.mem_cons_self (d, v) hm hc
        rw [this]
    · rw [if_neg hc, ih h'.2, List.mem_cons]
      constructor
      · exact .inr
      · rintro (he | he)
        · exact absurd (by rw [← he]) hc
        · exact he

theorem opt_ext {α : Type} {a b : Option α} (h : ∀ x, a = some x ↔ b = some x) : a = b := by
  cases a with
  | none => cases b with
    | none => rfl
    | some y => exact absurd ((h y).2 rfl) (by simp)
  | some x => exact ((h x).1 rfl).symm

theorem mrg_at {a b : List PostL} (ha : keysUp a) (hb : keysUp b) {y : Int × Option (List Int) × Option (List Int)} (hy : y ∈ mrg a b) : y.2.1 = findDoc a y.1 ∧ y.2.2 = findDoc b y.1 := by
  have h2 := mem_mrg2 a b y hy
  have hu := mrg_up a b ha hb
  refine ⟨opt_ext fun x => ?_, opt_ext fun x => ?_⟩
  · rw [findDoc_some ha]
    refine ⟨h2.1 x, fun h => ?_⟩
    obtain ⟨z, hz, h3, h4⟩ := mrg_hasL a b _ h
    have := keysUp_one hu z hz y hy h3
    rw [← this]; exact h4
  · rw [findDoc_some hb]
    refine ⟨h2.2 x, fun h => ?_⟩
    obtain ⟨z, hz, h3, h4⟩ := mrg_hasR a b _ h
    have := keysUp_one hu z hz y hy h3
    rw [← this]; exact h4

/-! ### What is gathered of the pairs -/
def pickOf (g : Int × Option (List Int) × Option (List Int) → Option (List Int)) (m : List (Int × Option (List Int) × Option (List Int))) : List PostL := m.filterMap fun y => (g y).map fun v => (y.1, v)

theorem pick_up {g : Int × Option (List Int) × Option (List Int) → Option (List Int)} {m : List (Int × Option (List Int) × Option (List Int))} (h : keysUp m) : keysUp (pickOf g m) := by
  induction m with
  | nil => exact List.Pairwise.nil
  | cons y m ih =>
    rw [keysUp_cons] at h
    unfold pickOf
    rw [List.filterMap_cons]
    cases hg : g y with
    | none => exact ih h.2
    | some v =>
      simp only [Option.map_some]
      rw [keysUp_cons]
      refine ⟨fun k hk => ?_, ih h.2⟩
      obtain ⟨z, hz, rfl⟩ := List.mem_map.1 hk
      obtain ⟨w, hw, hwz⟩ := List.mem_filterMap.1 hz
      rw [Option.map_eq_some_iff] at hwz
      obtain ⟨u, _, rfl⟩ := hwz
      exact h.1 _ (List.mem_map_of_mem hw)

theorem pick_find {g : Int × Option (List Int) × Option (List Int) → Option (List Int)} {m : List (Int × Option (List Int) × Option (List Int))} (h : keysUp m) {y : Int × Option (List Int) × Option (List Int)} (hy : y ∈ m) :
    findDoc (pickOf g m) y.1 = g y := by
  refine opt_ext fun x => ?_
  rw [findDoc_some (pick_up h)]
  unfold pickOf
  rw [List.mem_filterMap]
  constructor
  · rintro ⟨z, hz, hx⟩
    rw [Option.map_eq_some_iff] at hx
    obtain ⟨u, hu, he⟩ := hx
    simp only [Prod.mk.injEq] at he
    have := keysUp_one h z hz y hy he.1
    rw [← this, hu, he.2]
  · intro hx
    exact ⟨y, hy, by rw [hx]; rfl⟩

theorem keep_pick (sel : Bool → Bool → Bool) (m : List (Int × Option (List Int) × Option (List Int))) : keepOf sel m = pickOf (fun y => if sel y.2.1.isSome y.2.2.isSome then some (joinL (y.2.1.getD []) (y.2.2.getD [])) else none) m := by
  induction m with
  | nil => rfl
  | cons y m ih =>
    unfold keepOf pickOf at ih ⊢
    rw [List.filter_cons, List.filterMap_cons]
    cases h : sel y.2.1.isSome y.2.2.isSome
    · simpa [h] using ih
    · simpa [h] using ih

theorem fol_pick (gap : Int) (m : List (Int × Option (List Int) × Option (List Int))) : folOf gap m = pickOf (fun y => match y.2.1, y.2.2 with | some p, some q => if folP gap p q = [] then none else some (folP gap p q) | _, _ => none) m := by
  induction m with
  | nil => rfl
  | cons y m ih =>
    unfold folOf pickOf at ih ⊢
    rw [List.flatMap_cons, List.filterMap_cons, ih]
    obtain ⟨d, o1, o2⟩ := y
    unfold folX
    cases o1 <;> cases o2 <;> try rfl
    rename_i p q
    by_cases hc : folP gap p q = []
    · simp [hc]
    · simp [hc]

/-! ### Numbers of both -/
theorem mem_joinL (a b : List Int) (n : Int) : n ∈ joinL a b ↔ n ∈ a ∨ n ∈ b := by
  unfold joinL
  constructor
  · intro h
    obtain ⟨y, hy, rfl⟩ := List.mem_map.1 h
    have := mem_mrg _ _ y hy
    rwa [map_units, map_units] at this
  · rintro (h | h)
    · obtain ⟨y, hy, h1, _⟩ := mrg_hasL (units a) (units b) (n, ()) (List.mem_map_of_mem h)
      exact List.mem_map.2 ⟨y, hy, h1⟩
    · obtain ⟨y, hy, h1, _⟩ := mrg_hasR (units a) (units b) (n, ()) (List.mem_map_of_mem h)
      exact List.mem_map.2 ⟨y, hy, h1⟩
theorem joinL_comm (a b : List Int) : joinL a b = joinL b a := by
  unfold joinL
  rw [mrg_comm (units a) (units b), List.map_map]
  rfl
theorem units_up {l : List Int} (h : rises l) : keysUp (units l) := by
  unfold keysUp units
  rw [List.pairwise_map]
  exact ((rises_iff l).1 h).2
theorem joinL_rises {a b : List Int} (ha : rises a) (hb : rises b) : rises (joinL a b) := by
  rw [rises_iff]
  refine ⟨fun x hx => ?_, ?_⟩
  · rcases (mem_joinL a b x).1 hx with h | h
    · exact ((rises_iff a).1 ha).1 x h
    · exact ((rises_iff b).1 hb).1 x h
  · unfold joinL
    rw [List.pairwise_map]
    exact mrg_up _ _ (units_up ha) (units_up hb)
theorem folP_rises {gap : Int} {p q : List Int} (h : rises p) : rises (folP gap p q) := by
  rw [rises_iff] at h ⊢
  refine ⟨fun x hx => h.1 x (List.mem_filter.1 hx).1, h.2.filter _⟩
theorem folP_len {gap : Int} {p q : List Int} : (folP gap p q).length ≤ p.length := List.length_filter_le _ _

theorem kept_comm {sel : Bool → Bool → Bool} (hs : ∀ a b, sel a b = sel b a) (a b : List PostL) : keptL sel b a = keptL sel a b := by
  unfold keptL
  rw [keep_pick, keep_pick, mrg_comm a b]
  unfold pickOf
  rw [List.filterMap_map]
  congr 1
  funext y
  simp only [Function.comp_apply]
  rw [hs, joinL_comm]

theorem kept_lens (a b : List PostL) : (keptL (fun _ _ => true) a b).length = (keptL (fun x y => x && y) a b).length + (keptL (fun _ y => !y) a b).length + (keptL (fun _ y => !y) b a).length := by
  unfold keptL
  rw [mrg_comm a b]
  have hm := mrg_some a b
  generalize mrg a b = m at hm
  induction m with
  | nil => rfl
  | cons y m ih =>
    have ih := ih fun z hz => hm z (List.mem_cons_of_mem _ hz)
    have hy := hm y List.mem_cons_self
    unfold keepOf at ih ⊢
    simp only [List.length_map,List.map_cons,List.filter_cons] at ih ⊢
    obtain ⟨d, o1, o2⟩ := y
    cases o1 <;> cases o2 <;> simp at hy ih ⊢ <;> omega

theorem kept_wfs {sel : Bool → Bool → Bool} {a b : List PostL} (ha : wfs a) (hb : wfs b) : wfs (keptL sel a b) := by
  rw [wfs_iff] at ha hb ⊢
  have hu := mrg_up a b ha.1 hb.1
  refine ⟨?_, fun p hp => ?_⟩
  · unfold keptL; rw [keep_pick]; exact pick_up hu
  · unfold keptL keepOf at hp
    obtain ⟨y, hy, rfl⟩ := List.mem_map.1 hp
    obtain ⟨h1, h2⟩ := mem_mrg2 a b y (List.mem_filter.1 hy).1
    refine joinL_rises ?_ ?_
    · cases h : y.2.1 with
      | none => exact fun j hj => by simp at hj
      | some x => exact ha.2 _ (h1 x h)
    · cases h : y.2.2 with
      | none => exact fun j hj => by simp at hj
      | some x => exact hb.2 _ (h2 x h)

theorem fol_wfs {gap : Int} {a b : List PostL} (ha : wfs a) (hb : wfs b) : wfs (followL gap a b) := by
  rw [wfs_iff] at ha hb ⊢
  have hu := mrg_up a b ha.1 hb.1
  refine ⟨?_, fun p hp => ?_⟩
  · unfold followL; rw [fol_pick]; exact pick_up hu
  · unfold followL folOf at hp
    obtain ⟨y, hy, hp⟩ := List.mem_flatMap.1 hp
    obtain ⟨h1, h2⟩ := mem_mrg2 a b y hy
    unfold folX at hp
    split at hp
    · rename_i p' q' e1 e2
      split at hp
      · cases hp
      · simp only [List.mem_singleton] at hp
        subst hp
        exact folP_rises (ha.2 _ (h1 _ e1))
    · cases hp

theorem fol_bound {gap : Int} {a b : List PostL} {n : Nat} (ha : ∀ p ∈ a, p.2.length ≤ n) : (followL gap a b).length ≤ a.length + b.length ∧ ∀ p ∈ followL gap a b, p.2.length ≤ n := by
  refine ⟨Nat.le_trans (length_fol gap _) (length_mrg a b), fun p hp => ?_⟩
  unfold followL folOf at hp
  obtain ⟨y, hy, hp⟩ := List.mem_flatMap.1 hp
  obtain ⟨h1, h2⟩ := mem_mrg2 a b y hy
  unfold folX at hp
  split at hp
  · rename_i p' q' e1 e2
    split at hp
    · cases hp
    · simp only [List.mem_singleton] at hp
      subst hp
      exact Nat.le_trans folP_len (ha _ (h1 _ e1))
  · cases hp

theorem kept_bound {sel : Bool → Bool → Bool} {a b : List PostL} {n k : Nat} (ha : ∀ p ∈ a, p.2.length ≤ n) (hb : ∀ p ∈ b, p.2.length ≤ k) : (keptL sel a b).length ≤ a.length + b.length ∧ ∀ p ∈ keptL sel a b, p.2.length ≤ n + k := by
  unfold keptL keepOf
  refine ⟨?_, fun p hp => ?_⟩
  · rw [List.length_map]
    exact Nat.le_trans (List.length_filter_le _ _) (length_mrg a b)
  · obtain ⟨y, hy, rfl⟩ := List.mem_map.1 hp
    obtain ⟨h1, h2⟩ := mem_mrg2 a b y (List.mem_filter.1 hy).1
    refine Nat.le_trans (length_joinL _ _) ?_
    have k1 : (y.2.1.getD []).length ≤ n := by
      cases h : y.2.1 with
      | none => simp
      | some x => exact ha _ (h1 x h)
    have k2 : (y.2.2.getD []).length ≤ k := by
      cases h : y.2.2 with
      | none => simp
      | some x => exact hb _ (h2 x h)
    omega

/-! ### The laws, document by document -/
theorem follow_at {gap : Int} {a b : List PostL} (ha : keysUp a) (hb : keysUp b) {y : Int × Option (List Int) × Option (List Int)} (hy : y ∈ mrg a b) :
    (findDoc (followL gap a b) y.1).getD [] = folP gap ((findDoc a y.1).getD []) ((findDoc b y.1).getD []) := by
  unfold followL
  rw [fol_pick, pick_find (mrg_up a b ha hb) hy]
  obtain ⟨h1, h2⟩ := mrg_at ha hb hy
  rw [← h1, ← h2]
  obtain ⟨d, o1, o2⟩ := y
  cases o1 <;> cases o2 <;> simp [folP]
  rename_i p q
  by_cases hc : ∀ x ∈ p, ¬ x + gap ∈ q
  · rw [if_pos hc]; simp only [Option.getD_none]; symm; rw [List.filter_eq_nil_iff]; simpa using hc
  · rw [if_neg hc]; rfl

theorem laws_at {a b : List PostL} (ha : wfs a) (hb : wfs b) (gap : Int) {i : Nat} (hi : i < (keptL (fun _ _ => true) a b).length) :
    ∃ d o1 o2, (keptL (fun _ _ => true) a b)[i] = (d, joinL (o1.getD []) (o2.getD [])) ∧ findDoc a d = o1 ∧ findDoc b d = o2 ∧ (o1.isSome || o2.isSome) = true ∧
      (findDoc (keptL (fun x y => x && y) a b) d).isSome = (o1.isSome && o2.isSome) ∧ (findDoc (keptL (fun _ y => !y) a b) d).isSome = (o1.isSome && !o2.isSome) ∧ (findDoc (keptL (fun _ y => !y) b a) d).isSome = (o2.isSome && !o1.isSome) ∧
      (findDoc (followL gap a b) d).getD [] = folP gap (o1.getD []) (o2.getD []) ∧ rises (o1.getD []) ∧ rises (o2.getD []) := by
  have hka := (wfs_iff a).1 ha
  have hkb := (wfs_iff b).1 hb
  have hu := mrg_up a b hka.1 hkb.1
  have hE : keptL (fun _ _ => true) a b = (mrg a b).map fun x => (x.1, joinL (x.2.1.getD []) (x.2.2.getD [])) := by
    unfold keptL keepOf
    rw [List.filter_eq_self.2 (fun _ _ => rfl)]
  have hi' : i < (mrg a b).length := by rw [hE, List.length_map] at hi; exact hi
  have hy := List.getElem_mem hi'
  obtain ⟨h1, h2⟩ := mrg_at hka.1 hkb.1 hy
  have h3 := mrg_some a b _ hy
  have hf := follow_at (gap := gap) hka.1 hkb.1 hy
  have hm2 := mem_mrg2 a b _ hy
  refine ⟨(mrg a b)[i].1, (mrg a b)[i].2.1, (mrg a b)[i].2.2, ?_, h1.symm, h2.symm, h3, ?_, ?_, ?_, by rw [hf, ← h1, ← h2], ?_, ?_⟩
  · simp only [hE,List.getElem_map]
  · unfold keptL; rw [keep_pick, pick_find hu hy]; cases (mrg a b)[i].2.1 <;> cases (mrg a b)[i].2.2 <;> rfl
  · unfold keptL; rw [keep_pick, pick_find hu hy]; revert h3; cases (mrg a b)[i].2.1 <;> cases (mrg a b)[i].2.2 <;> simp
  · have hu' := mrg_up b a hkb.1 hka.1
    have hy' : ((mrg a b)[i].1, (mrg a b)[i].2.2, (mrg a b)[i].2.1) ∈ mrg b a := by
      rw [mrg_comm a b]; exact List.mem_map.2 ⟨_, hy, rfl⟩
    have := pick_find (g := fun y => if (fun _ y => !y) y.2.1.isSome y.2.2.isSome then some (joinL (y.2.1.getD []) (y.2.2.getD [])) else none) hu' hy'
    unfold keptL
    rw [keep_pick]
    rw [this]
    revert h3; cases (mrg a b)[i].2.1 <;> cases (mrg a b)[i].2.2 <;> simp
  · cases h : (mrg a b)[i].2.1 with
    | none => exact fun j hj => by simp at hj
    | some x => exact hka.2 _ (hm2.1 x h)
  · cases h : (mrg a b)[i].2.2 with
    | none => exact fun j hj => by simp at hj
    | some x => exact hkb.2 _ (hm2.2 x h)

theorem rises_take_not {q : List Int} (h : rises q) {j : Nat} (hj : j < q.length) : q[j] ∉ q.take j := by
  intro hm
  rw [List.mem_take_iff_getElem] at hm
  obtain ⟨i, hi, he⟩ := hm
  have := (List.pairwise_iff_getElem.1 ((rises_iff q).1 h).2) i j (by omega) hj (by omega)
  omega

/-- A row of three. -/
theorem row_at {a b c : List PostL} (ha : wfs a) (hb : wfs b) (hc : wfs c) {gap next : Int} {i : Nat} (hi : i < (followL gap a (followL next b c)).length) :
    ∃ p, findDoc (keptL (fun x y => x && y) (followL gap a b) (followL (gap + next) a c)) (followL gap a (followL next b c))[i].1 = some p ∧ ∀ n ∈ (followL gap a (followL next b c))[i].2, n ∈ p := by
  have hB := fol_wfs (gap := next) hb hc
  have hab := fol_wfs (gap := gap) ha hb
  have hac := fol_wfs (gap := gap + next) ha hc
  have kab := ((wfs_iff _).1 hab).1
  have kac := ((wfs_iff _).1 hac).1
  have ka := ((wfs_iff _).1 ha).1
  have kb := ((wfs_iff _).1 hb).1
  have kc := ((wfs_iff _).1 hc).1
  have kB := ((wfs_iff _).1 hB).1
  have key : ∀ z ∈ followL gap a (followL next b c), ∃ p, findDoc (keptL (fun x y => x && y) (followL gap a b) (followL (gap + next) a c)) z.1 = some p ∧ ∀ n ∈ z.2, n ∈ p := by
    intro z hz
    have hz' := hz
    unfold followL folOf at hz'
    obtain ⟨y, hy, hp⟩ := List.mem_flatMap.1 hz'
    change y ∈ mrg a (followL next b c) at hy
    unfold folX at hp
    split at hp
    · rename_i P R e1 e2
      split at hp
      · cases hp
      · rename_i hne
        simp only [List.mem_singleton] at hp
        subst hp
        obtain ⟨h1, h2⟩ := mrg_at ka kB hy
        rw [e1] at h1
        rw [e2] at h2
        have hR := (findDoc_some kB _ _).1 h2.symm
        have hP := (findDoc_some ka _ _).1 h1.symm
        -- what R is
        have hR' := hR
        unfold followL folOf at hR'
        obtain ⟨w, hw, hwR⟩ := List.mem_flatMap.1 hR'
        unfold folX at hwR
        split at hwR
        · rename_i Q S f1 f2
          split at hwR
          · cases hwR
          · simp only [List.mem_singleton,Prod.mk.injEq] at hwR
            obtain ⟨hd, rfl⟩ := hwR
            obtain ⟨g1, g2⟩ := mrg_at kb kc hw
            rw [f1, ← hd] at g1
            rw [f2, ← hd] at g2
            have hQ := (findDoc_some kb _ _).1 g1.symm
            have hS := (findDoc_some kc _ _).1 g2.symm
            have sub1 : ∀ n ∈ folP gap P (folP next Q S), n ∈ folP gap P Q ∧ n ∈ folP (gap + next) P S := by
              intro n hn
              simp only [folP,List.mem_filter,decide_eq_true_eq] at hn ⊢
              refine ⟨⟨hn.1, hn.2.1⟩, hn.1, ?_⟩
              rw [← Int.add_assoc]
              exact hn.2.2
            obtain ⟨n0, hn0⟩ := List.exists_mem_of_ne_nil _ hne
            have fab : findDoc (followL gap a b) y.1 = some (folP gap P Q) := by
              obtain ⟨y', hy', k1, k2⟩ := mrg_hasL a b _ hP
              unfold followL
              have k3 := mrg_at ka kb hy'
              have := pick_find (g := fun y => match y.2.1, y.2.2 with | some p, some q => if folP gap p q = [] then none else some (folP gap p q) | _, _ => none) (mrg_up a b ka kb) hy'
              rw [fol_pick, ← k1, this, k2, k3.2, k1, ← g1]
              exact if_neg (List.ne_nil_of_mem (sub1 n0 hn0).1)
            have fac : findDoc (followL (gap + next) a c) y.1 = some (folP (gap + next) P S) := by
              obtain ⟨y', hy', k1, k2⟩ := mrg_hasL a c _ hP
              unfold followL
              have k3 := mrg_at ka kc hy'
              have := pick_find (g := fun y => match y.2.1, y.2.2 with | some p, some q => if folP (gap + next) p q = [] then none else some (folP (gap + next) p q) | _, _ => none) (mrg_up a c ka kc) hy'
              rw [fol_pick, ← k1, this, k2, k3.2, k1, ← g2]
              exact if_neg (List.ne_nil_of_mem (sub1 n0 hn0).2)
            obtain ⟨y', hy', k1, k2⟩ := mrg_hasL (followL gap a b) (followL (gap + next) a c) _ ((findDoc_some kab _ _).1 fab)
            have k3 := mrg_at kab kac hy'
            have k4 : y'.2.2 = some (folP (gap + next) P S) := by rw [k3.2, k1]; exact fac
            refine ⟨joinL (folP gap P Q) (folP (gap + next) P S), ?_, fun n hn => (mem_joinL _ _ _).2 (.inl (sub1 n hn).1)⟩
            have := pick_find (g := fun y => if (fun x y => x && y) y.2.1.isSome y.2.2.isSome then some (joinL (y.2.1.getD []) (y.2.2.getD [])) else none) (mrg_up _ _ kab kac) hy'
            unfold keptL
            rw [keep_pick]
            rw [← k1, this, k2, k4]
            rfl
        · cases hwR
    · cases hp
  exact key _ (List.getElem_mem hi)
end Go.Sh
