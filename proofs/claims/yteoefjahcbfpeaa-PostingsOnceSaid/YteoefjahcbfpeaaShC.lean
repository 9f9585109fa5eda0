/- Shadow, part 3: a block that is written: stores, a row that grows in place, loop records, a row whose cells a string shares. -/
import Derived.Test.YteoefjahcbfpeaaShB
namespace Go.Sh
open Go

/-- Block c of the world, replaced. -/
def putB (W : World) (c : Nat) (o : Obj) : World := { W with heap := W.heap.setIfInBounds c o }

theorem putB_same {W : World} {c : Nat} {o : Obj} (h : c < W.heap.size) : (putB W c o).heap[c]? = some o := by simp [putB, h]
theorem putB_other {W : World} {c i : Nat} {o : Obj} (h : i ≠ c) : (putB W c o).heap[i]? = W.heap[i]? := by
  simp only [putB, Array.getElem?_setIfInBounds]
  rw [if_neg (by omega)]
@[simp] theorem putB_size (W : World) (c : Nat) (o : Obj) : (putB W c o).heap.size = W.heap.size := by simp [putB]
theorem putB_putB (W : World) (c : Nat) (o o' : Obj) : putB (putB W c o) c o' = putB W c o' := by
  simp only [putB]
  congr 1
  apply Array.ext_getElem?
  intro i
  simp only [Array.getElem?_setIfInBounds, Array.size_setIfInBounds]
  split <;> rfl
theorem putB_self {W : World} {c : Nat} {o : Obj} (h : W.heap[c]? = some o) : putB W c o = W := by
  simp only [putB]
  have : W.heap.setIfInBounds c o = W.heap := by
    apply Array.ext_getElem?
    intro i
    rw [Array.getElem?_setIfInBounds]
    split
    · rename_i hi
      subst hi
      split
      · exact h.symm
      · rename_i hn; rw [Array.getElem?_eq_none (by omega)]
    · rfl
  rw [this]

theorem setCell_putB {W : World} {c p : Nat} {cs : Array Value} {el : TypeId} {fr : Nat × Nat} (h : W.heap[c]? = some (.cells cs el fr)) (v : Value) :
    W.setCell ⟨c, p, none⟩ v = putB W c (.cells (cs.setIfInBounds p v) el fr) := by
  simp only [World.setCell, putB]
  congr 1
  apply Array.ext_getElem?
  intro i
  rw [Array.getElem?_modify, Array.getElem?_setIfInBounds]
  by_cases hi : c = i
  · subst hi
    have hlt : c < W.heap.size := by
      rcases Nat.lt_or_ge c W.heap.size with hl | hl
      · exact hl
      · rw [Array.getElem?_eq_none hl] at h; cases h
    rw [if_pos rfl, h, if_pos rfl, if_pos hlt]
    rfl
  · simp [hi]

/-- Cells laid over others, from p on. -/
def aputs (cs : Array Value) (p : Nat) : List Value → Array Value
  | [] => cs
  | v :: vs => aputs (cs.setIfInBounds p v) (p + 1) vs
def lputs (cs : List Value) (p : Nat) : List Value → List Value
  | [] => cs
  | v :: vs => lputs (cs.set p v) (p + 1) vs

theorem aputs_size : ∀ (vs : List Value) (cs : Array Value) (p : Nat), (aputs cs p vs).size = cs.size
  | [], _, _ => rfl
  | v :: vs, cs, p => by simp [aputs, aputs_size vs]
theorem lputs_length : ∀ (vs : List Value) (cs : List Value) (p : Nat), (lputs cs p vs).length = cs.length
  | [], _, _ => rfl
  | v :: vs, cs, p => by simp [lputs, lputs_length vs]

theorem aputs_get : ∀ (vs : List Value) (cs : Array Value) (p i : Nat), p + vs.length ≤ cs.size →
    (aputs cs p vs)[i]? = if p ≤ i ∧ i < p + vs.length then vs[i - p]? else cs[i]?
  | [], cs, p, i, _ => by simp [aputs]; intro _ _; omega
  | v :: vs, cs, p, i, h => by
    simp only [List.length_cons] at h
    rw [aputs, aputs_get vs _ _ _ (by simp; omega), Array.getElem?_setIfInBounds]
    by_cases hi : i = p
    · subst hi
      have hlt : i < cs.size := by omega
      rw [if_neg (by omega), if_pos (by simp)]
      simp [hlt]
    · by_cases hr : p + 1 ≤ i ∧ i < p + 1 + vs.length
      · rw [if_pos hr, if_pos (by simp; omega)]
        have : i - p = (i - (p + 1)) + 1 := by omega
        rw [this, List.getElem?_cons_succ]
      · rw [if_neg hr, if_neg (by omega), if_neg (by simp; omega)]

theorem lputs_get : ∀ (vs : List Value) (cs : List Value) (p i : Nat), p + vs.length ≤ cs.length →
    (lputs cs p vs)[i]? = if p ≤ i ∧ i < p + vs.length then vs[i - p]? else cs[i]?
  | [], cs, p, i, _ => by simp [lputs]; intro _ _; omega
  | v :: vs, cs, p, i, h => by
    simp only [List.length_cons] at h
    rw [lputs, lputs_get vs _ _ _ (by simp; omega), List.getElem?_set]
    by_cases hi : i = p
    · subst hi
      have hlt : i < cs.length := by omega
      rw [if_neg (by omega), if_pos (by simp)]
      simp [hlt]
    · by_cases hr : p + 1 ≤ i ∧ i < p + 1 + vs.length
      · rw [if_pos hr, if_pos (by simp; omega)]
        have : i - p = (i - (p + 1)) + 1 := by omega
        rw [this, List.getElem?_cons_succ]
      · rw [if_neg hr, if_neg (by omega), if_neg (by simp; omega)]

/-- A value that is one cell. -/
def one : Value → Bool
  | .agg _ => false
  | .tuple _ => false
  | _ => true

theorem VRel.one {m : Map} {v v' : Value} (h : VRel m v v') : one v' = one v := by cases h <;> rfl

theorem run_store {P : Program} {W : World} {c p : Nat} {cs : Array Value} {el : TypeId} {fr : Nat × Nat} {v : Value} (h : W.heap[c]? = some (.cells cs el fr)) (hp : p < cs.size)
    (hf : ¬ (fr.1 ≤ p ∧ p < fr.2)) (h1 : one v = true) : (store ⟨c, p, none⟩ v).run P W = .ok () (putB W c (.cells (cs.setIfInBounds p v) el fr)) := by
  have hc : W.cell? ⟨c, p, none⟩ = some cs[p] := by rw [cell_of h]; exact Array.getElem?_eq_getElem hp
  have hz : W.frozen? ⟨c, p, none⟩ = false := by rw [frozen_of h]; simpa using hf
  have hs := setCell_putB (p := p) h v
  cases v <;> simp only [one, Bool.false_eq_true] at h1 <;> simp [store, Sem.run, hc, hz, hs]

theorem run_storeCells {P : Program} {c p : Nat} {el : TypeId} {fr : Nat × Nat} : ∀ (vs : List Value) (i : Nat) (W : World) (cs : Array Value),
    W.heap[c]? = some (.cells cs el fr) → p + i + vs.length ≤ cs.size → (∀ j, p + i ≤ j → j < p + i + vs.length → ¬ (fr.1 ≤ j ∧ j < fr.2)) → (∀ v ∈ vs, one v = true) →
    (storeCells ⟨c, p, none⟩ vs i).run P W = .ok () (putB W c (.cells (aputs cs (p + i) vs) el fr)) := by
  intro vs
  induction vs with
  | nil => intro i W cs h _ _ _; simp only [storeCells, aputs]; rw [putB_self h]; rfl
  | cons v vs ih =>
    intro i W cs h hn hf h1
    simp only [List.length_cons] at hn hf
    have hlt : c < W.heap.size := by
      rcases Nat.lt_or_ge c W.heap.size with hl | hl
      · exact hl
      · rw [Array.getElem?_eq_none hl] at h; cases h
    rw [storeCells, Sem.run_bind, add_none, run_store h (by omega) (hf _ (by omega) (by omega)) (h1 v (by simp))]
    simp only [Result.andThen]
    rw [ih (i + 1) _ (cs.setIfInBounds (p + i) v) (putB_same hlt) (by simp; omega) (fun j a b => hf j (by omega) (by omega)) (fun u hu => h1 u (by simp [hu])), putB_putB]
    rfl

/-! ### Rows that may share cells with a row that is written are struck -/

def dead : AObj := .row ⟨[], 0, true, 0, [], true⟩

def AHeap.kill (A : AHeap) : List Nat → AHeap
  | [] => A
  | b :: bs => (A.set b dead).kill bs

theorem AHeap.next_kill : ∀ (ch : List Nat) (A : AHeap), (A.kill ch).next = A.next
  | [], _ => rfl
  | b :: bs, A => by rw [kill, next_kill bs]; rfl

theorem AHeap.get_kill : ∀ (ch : List Nat) (A : AHeap) (j : Nat), (A.kill ch).get j = if j ∈ ch then some dead else A.get j
  | [], A, j => by simp [kill]
  | b :: bs, A, j => by
    rw [kill, get_kill bs, AHeap.get_set]
    by_cases h : j ∈ bs
    · simp [h]
    · by_cases h' : j = b
      · simp [h']
      · simp [h, h']

/-- Block b, writable, is replaced in both memories; those of its chain are dead. -/
theorem Sim.write {P : Program} {m : Map} {A A' : AHeap} {W : World} (h : Sim P m A W) {b : Nat} {en : Ent} {o o' : AObj} {ob : Obj} (hb : m b = some en) (ho : A.get b = some o)
    (hw : o.writable = true) (hA : ∀ j, A'.get j = if j = b then some o' else if j ∈ o.chain then some dead else A.get j) (hn : A'.next = A.next)
    (hrow : ∀ r, o' = .row r → r.st ≠ 0 → RowRel P m r en (putB W en.c ob)) (hloop : ∀ l, o' = .loop l → LoopRel m l en (putB W en.c ob)) (hlp : ∀ lo, W.heap[en.c]? = some (.loop lo) → ∃ lo', ob = .loop lo') :
    Sim P m A' (putB W en.c ob) ∧ Step m A W m A' (putB W en.c ob) := by
  have hother : ∀ b' en' o'', m b' = some en' → b' ≠ b → A'.get b' = some o'' → o''.alive = true → A.get b' = some o'' ∧ en'.c ≠ en.c := by
    intro b' en' o'' hm hne hg ha
    rw [hA, if_neg hne] at hg
    split at hg
    · simp at hg; subst hg; simp [dead, AObj.alive] at ha
    · rename_i hch
      refine ⟨hg, fun hc => ?_⟩
      rcases h.own b en o b' en' o'' hb ho hw hm hg ha hc with e | ⟨e, _, _⟩
      · exact hne e
      · exact hch e
  refine ⟨⟨fun j e hj => hn ▸ h.dom j e hj, fun j e hj => by simpa using h.lt j e hj, ?_, ?_, ?_⟩, ⟨Map.le.refl m, by omega, by simp, rfl, rfl, rfl, ?_, fun j e hj _ => ⟨j, e, hj, rfl⟩, ?_, ?_⟩⟩
  · intro j e r hj hr hst
    by_cases hjb : j = b
    · subst hjb
      rw [hb] at hj; cases hj
      rw [hA, if_pos rfl] at hr
      exact hrow r (by simpa using hr) hst
    · obtain ⟨hg, hc⟩ := hother j e _ hj hjb hr (by simp [AObj.alive]; omega)
      obtain ⟨cs, fr, ⟨te, hW, hte⟩, k⟩ := h.row j e r hj hg hst
      exact ⟨cs, fr, ⟨te, by rw [putB_other hc]; exact hW, hte⟩, k⟩
  · intro j e l hj hr
    by_cases hjb : j = b
    · subst hjb
      rw [hb] at hj; cases hj
      rw [hA, if_pos rfl] at hr
      exact hloop l (by simpa using hr)
    · obtain ⟨hg, hc⟩ := hother j e _ hj hjb hr rfl
      obtain ⟨lo, hW, k⟩ := h.loop j e l hj hg
      exact ⟨lo, by rw [putB_other hc]; exact hW, k⟩
  · intro j e o1 j' e' o2 hj ho1 hw1 hj' ho2 ha hc
    by_cases hjb : j = b
    · subst hjb
      by_cases hj'b : j' = j
      · exact .inl hj'b
      · rw [hb] at hj; cases hj
        exact absurd hc (hother j' e' o2 hj' hj'b ho2 ha).2
    · have hal : o1.alive = true := by
        cases o1 with
        | row r => simp [AObj.writable] at hw1; simp [AObj.alive]; omega
        | loop l => rfl
        | other => cases hw1
      obtain ⟨hg1, hc1⟩ := hother j e o1 hj hjb ho1 hal
      by_cases hj'b : j' = b
      · subst hj'b
        rw [hb] at hj'; cases hj'
        exact absurd hc.symm hc1
      · exact h.own j e o1 j' e' o2 hj hg1 hw1 hj' (hother j' e' o2 hj' hj'b ho2 ha).1 ha hc
  · intro c hc hfw
    by_cases hcc : c = en.c
    · have := hfw b en o hb hcc.symm ho
      rw [hw] at this; cases this
    · exact putB_other hcc
  · intro j e o1 hj ho1 hw1 _
    by_cases hjb : j = b
    · subst hjb
      rw [hb] at hj; cases hj
      exact ⟨j, en, o, hb, ho, hw, rfl⟩
    · have hal : o1.alive = true := by
        cases o1 with
        | row r => simp [AObj.writable] at hw1; simp [AObj.alive]; omega
        | loop l => rfl
        | other => cases hw1
      exact ⟨j, e, o1, hj, (hother j e o1 hj hjb ho1 hal).1, hw1, rfl⟩
  · intro c lo hc
    by_cases hcc : c = en.c
    · subst hcc
      obtain ⟨lo', e⟩ := hlp lo hc
      exact ⟨lo', by rw [putB_same (lt_of_get hc), e]⟩
    · exact ⟨lo, by rw [putB_other hcc]; exact hc⟩

/-- A store of cells into a row. -/
def aputRow (A : AHeap) (b o : Nat) (vs : List Value) : Option AHeap :=
  match arow A b with
  | some r => if r.st = 3 ∧ o + vs.length ≤ r.cells.length ∧ vs.all one = true then
      some ((A.kill r.chain).set b (.row { r with cells := lputs r.cells o vs, chain := [] })) else none
  | none => none

theorem Sim.storeCells {P : Program} {m : Map} {A A' : AHeap} {W : World} (h : Sim P m A W) {b o : Nat} {en : Ent} {vs ys : List Value} (hb : m b = some en) (hl : LRel m vs ys)
    (hx : aputRow A b o vs = some A') : ∃ W', (Go.storeCells ⟨en.c, en.d + o, none⟩ ys).run P W = .ok () W' ∧ Sim P m A' W' ∧ Step m A W m A' W' := by
  unfold aputRow at hx
  split at hx
  · rename_i r hr
    split at hx
    · rename_i hc
      obtain ⟨hst, hle, h1⟩ := hc
      simp at hx
      subst hx
      obtain ⟨hg, hst0⟩ := arow_some hr
      obtain ⟨cs, fr, ⟨te, hW, hte⟩, k⟩ := h.row b en r hb hg hst0
      have hlen := k.len
      have hfit := k.fit
      have hsz := k.size
      have hll := hl.1
      have h1' : ∀ v ∈ ys, one v = true := by
        intro v hv
        obtain ⟨i, hi, rfl⟩ := List.getElem_of_mem hv
        obtain ⟨u, hu, hrel⟩ := hl.get' (List.getElem?_eq_getElem hi)
        rw [hrel.one]
        exact (List.all_eq_true.1 h1) u (List.mem_of_getElem? hu)
      have hfree : ∀ j, en.d ≤ j → j < en.d + en.n → ¬ (fr.1 ≤ j ∧ j < fr.2) := by
        intro j a b'
        refine k.wr hst j a ?_
        split <;> omega
      refine ⟨_, run_storeCells (P := P) ys 0 W cs hW (by omega) (fun j a b' => hfree j (by omega) (by omega)) h1', ?_⟩
      refine h.write hb hg (by simp [AObj.writable, hst]) (o' := .row { r with cells := lputs r.cells o vs, chain := [] }) ?_ ?_ ?_ ?_ (fun lo x => by rw [hW] at x; cases x)
      · intro j
        rw [AHeap.get_set, AHeap.get_kill]
        rfl
      · rw [AHeap.next_set, AHeap.next_kill]
      · intro r' hr' _
        simp at hr'
        subst hr'
        refine ⟨_, fr, ⟨te, putB_same (h.lt b en hb), hte⟩, ⟨by simp [lputs_length, hlen], k.x, hfit, k.s, by rw [aputs_size]; exact hsz, ?_, ?_, ?_, k.fz, k.xd⟩⟩
        · intro i v hv
          simp only at hv
          rw [lputs_get _ _ _ _ hle] at hv
          rw [aputs_get _ _ _ _ (by omega)]
          split at hv
          · rename_i hin
            rw [if_pos (by omega)]
            obtain ⟨v', hv', hrel⟩ := hl.get hv
            have : en.d + i - (en.d + o + 0) = i - o := by omega
            rw [this]
            exact ⟨v', hv', hrel⟩
          · rename_i hout
            rw [if_neg (by omega)]
            exact k.cells i v hv
        · intro _ i a b'
          exact k.wr hst i a b'
        · intro _ a i b' c'
          exact k.ap (by omega) a i b' c'
      · intro l hl'; cases hl'
    · cases hx
  · cases hx
end Go.Sh
