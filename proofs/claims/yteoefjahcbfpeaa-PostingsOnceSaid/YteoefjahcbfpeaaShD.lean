/- Shadow, part 4: a loop's record, blocks beside, a row that grows, a row whose cells a string shares. -/
import Derived.Test.YteoefjahcbfpeaaShC
namespace Go.Sh
open Go

/-- A new block that no abstract block lies in. -/
theorem Sim.beside {P : Program} {m : Map} {A : AHeap} {W : World} (h : Sim P m A W) (o : Obj) : Sim P m A (W.alloc o) ∧ Step m A W m A (W.alloc o) := by
  have hold : ∀ c, c < W.heap.size → (W.alloc o).heap[c]? = W.heap[c]? := fun c hc => get_push hc
  refine ⟨⟨h.dom, fun b e hb => by have := h.lt b e hb; simp; omega, ?_, ?_, h.own⟩, ⟨Map.le.refl m, Nat.le_refl _, by simp, rfl, rfl, rfl, fun c hc _ => hold c hc,
    fun b e hb _ => ⟨b, e, hb, rfl⟩, fun b e o' hb ho hw _ => ⟨b, e, o', hb, ho, hw, rfl⟩, fun c lo x => ⟨lo, by rw [hold c (lt_of_get x)]; exact x⟩⟩⟩
  · intro b e r hb hr hst
    obtain ⟨cs, fr, ⟨te, hW, hte⟩, k⟩ := h.row b e r hb hr hst
    exact ⟨cs, fr, ⟨te, by rw [hold _ (h.lt b e hb)]; exact hW, hte⟩, k⟩
  · intro b e l hb hr
    obtain ⟨lo, hW, k⟩ := h.loop b e l hb hr
    exact ⟨lo, by rw [hold _ (h.lt b e hb)]; exact hW, k⟩

/-- A new loop's record. -/
theorem Sim.newLoop {P : Program} {m : Map} {A : AHeap} {W : World} (h : Sim P m A W) {l : ALoop} {lo : Loop} (h1 : lo.state = l.state) (h2 : lo.pending = l.pending)
    (h3 : lo.params = l.params) (h4 : lo.assign = l.assign) (h5 : lo.body = l.body) (h6 : ERel m l.nt l.env lo.tmps) :
    let en : Ent := ⟨W.heap.size, 0, 0, 0, 0, true⟩
    Sim P (m.ext A.next en) (A.alloc (.loop l)) (W.alloc (.loop lo)) ∧ Step m A W (m.ext A.next en) (A.alloc (.loop l)) (W.alloc (.loop lo)) := by
  intro en
  have hnone : m A.next = none := by
    cases hc : m A.next with
    | none => rfl
    | some e => have := h.dom _ _ hc; omega
  have hle : m.le (m.ext A.next en) := Map.le_ext m _ _ hnone
  have hext : ∀ b e, m.ext A.next en b = some e → (b = A.next ∧ e = en) ∨ (b ≠ A.next ∧ m b = some e) := by
    intro b e hb
    unfold Map.ext at hb
    by_cases hc : b = A.next
    · simp [hc] at hb; exact .inl ⟨hc, hb.symm⟩
    · simp [hc] at hb; exact .inr ⟨hc, hb⟩
  have hold : ∀ c, c < W.heap.size → (W.alloc (.loop lo)).heap[c]? = W.heap[c]? := fun c hc => get_push hc
  have hnew : (W.alloc (.loop lo)).heap[W.heap.size]? = some (.loop lo) := by
    show (W.heap.push _)[W.heap.size]? = _
    simp
  refine ⟨⟨?_, ?_, ?_, ?_, ?_⟩, ⟨hle, by simp, by simp, rfl, rfl, rfl, fun c hc _ => hold c hc, ?_, ?_, fun c lo x => ⟨lo, by rw [hold c (lt_of_get x)]; exact x⟩⟩⟩
  · intro b e hb
    rcases hext b e hb with ⟨rfl, rfl⟩ | ⟨_, hm⟩
    · simp
    · have := h.dom b e hm; simp; omega
  · intro b e hb
    rcases hext b e hb with ⟨rfl, rfl⟩ | ⟨_, hm⟩
    · simp [en]
    · have := h.lt b e hm; simp; omega
  · intro b e r hb hr hst
    rw [AHeap.get_alloc] at hr
    rcases hext b e hb with ⟨rfl, rfl⟩ | ⟨hne, hm⟩
    · simp at hr
    · rw [if_neg hne] at hr
      obtain ⟨cs, fr', ⟨te, hW, hte⟩, k⟩ := h.row b e r hm hr hst
      exact ⟨cs, fr', ⟨te, by rw [hold _ (h.lt b e hm)]; exact hW, hte⟩, k.mono hle⟩
  · intro b e l' hb hr
    rw [AHeap.get_alloc] at hr
    rcases hext b e hb with ⟨rfl, rfl⟩ | ⟨hne, hm⟩
    · simp at hr
      subst hr
      exact ⟨lo, hnew, h1, h2, h3, h4, h5, h6.mono hle⟩
    · rw [if_neg hne] at hr
      obtain ⟨lo', hW, a1, a2, a3, a4, a5, a6⟩ := h.loop b e l' hm hr
      exact ⟨lo', by rw [hold _ (h.lt b e hm)]; exact hW, a1, a2, a3, a4, a5, a6.mono hle⟩
  · intro b e o b' e' o' hb ho hw hb' ho' ha hc
    rw [AHeap.get_alloc] at ho ho'
    rcases hext b e hb with ⟨rfl, rfl⟩ | ⟨hne, hm⟩
    · rcases hext b' e' hb' with ⟨rfl, rfl⟩ | ⟨hne', hm'⟩
      · exact .inl rfl
      · have := h.lt b' e' hm'; simp only [en] at hc; omega
    · rcases hext b' e' hb' with ⟨rfl, rfl⟩ | ⟨hne', hm'⟩
      · have := h.lt b e hm; simp only [en] at hc; omega
      · rw [if_neg hne] at ho
        rw [if_neg hne'] at ho'
        exact h.own b e o b' e' o' hm ho hw hm' ho' ha hc
  · intro b e hb hlt
    rcases hext b e hb with ⟨rfl, rfl⟩ | ⟨hne, hm⟩
    · simp only [en] at hlt; omega
    · exact ⟨b, e, hm, rfl⟩
  · intro b e o hb ho hw hlt
    rcases hext b e hb with ⟨rfl, rfl⟩ | ⟨hne, hm⟩
    · simp only [en] at hlt; omega
    · rw [AHeap.get_alloc, if_neg hne] at ho
      exact ⟨b, e, o, hm, ho, hw, rfl⟩

/-- Row b, up to its end, and k cells more: as a new abstract row that lies in b's block (from cell o of b on). b may be read from now on, no more. -/
theorem Sim.growIn {P : Program} {m : Map} {A : AHeap} {W : World} (h : Sim P m A W) {b : Nat} {en : Ent} {r : Row} {cs : Array Value} {fr : Nat × Nat} {o : Nat} {vs ys : List Value}
    (hb : m b = some en) (hr : A.get b = some (.row r)) (hst : 2 ≤ r.st) (hx : r.x = false) (hW : W.heap[en.c]? = some (.cells cs r.elem fr)) (k : RowIn P m r en cs fr)
    (ho : o ≤ en.n) (hl : LRel m vs ys) (hfit : en.d + en.n + vs.length ≤ en.e) :
    let en' : Ent := ⟨en.c, en.d + o, en.n - o + vs.length, en.e, en.s, false⟩
    let A' := (A.set b (.row { r with st := 1 })).alloc (.row ⟨r.cells.drop o ++ vs, r.elem, false, r.st, b :: r.chain, r.fz⟩)
    let W' := putB W en.c (.cells (aputs cs (en.d + en.n) ys) r.elem fr)
    Sim P (m.ext A.next en') A' W' ∧ Step m A W (m.ext A.next en') A' W' := by
  intro en' A' W'
  have hlen := k.len
  have hsz := k.size
  have hkf := k.fit
  have hll := hl.1
  have hwr : (AObj.row r).writable = true := by simp [AObj.writable, hst]
  have hbn : b ≠ A.next := by have := h.dom b en hb; omega
  have hnone : m A.next = none := by
    cases hc : m A.next with
    | none => rfl
    | some e => have := h.dom _ _ hc; omega
  have hle : m.le (m.ext A.next en') := Map.le_ext m _ _ hnone
  have hext : ∀ j e, m.ext A.next en' j = some e → (j = A.next ∧ e = en') ∨ (j ≠ A.next ∧ m j = some e) := by
    intro j e hj
    unfold Map.ext at hj
    by_cases hc : j = A.next
    · simp [hc] at hj; exact .inl ⟨hc, hj.symm⟩
    · simp [hc] at hj; exact .inr ⟨hc, hj⟩
  have hget : ∀ j, A'.get j = if j = A.next then some (.row ⟨r.cells.drop o ++ vs, r.elem, false, r.st, b :: r.chain, r.fz⟩) else if j = b then some (.row { r with st := 1 }) else A.get j := by
    intro j
    show ((A.set b _).alloc _).get j = _
    rw [AHeap.get_alloc, AHeap.get_set]
    rfl
  have hcs' : ∀ i, i < en.d + en.n → (aputs cs (en.d + en.n) ys)[i]? = cs[i]? := by
    intro i hi
    rw [aputs_get _ _ _ _ (by omega), if_neg (by omega)]
  have hWc : W'.heap[en.c]? = some (.cells (aputs cs (en.d + en.n) ys) r.elem fr) := putB_same (h.lt b en hb)
  have hnofz : ∀ i, en.d + en.n ≤ i → i < en.e → ¬ (fr.1 ≤ i ∧ i < fr.2) := k.ap hst hx
  -- every other abstract block that is alive
  have hother : ∀ j e oj, m j = some e → j ≠ b → A.get j = some oj → oj.alive = true → e.c = en.c → j ∈ r.chain ∧ oj.writable = false ∧ e.d + e.n ≤ en.d + en.n := by
    intro j e oj hj hne hg ha hc
    rcases h.own b en (.row r) j e oj hb hr hwr hj hg ha hc with e1 | e1
    · exact absurd e1 hne
    · exact e1
  refine ⟨⟨?_, ?_, ?_, ?_, ?_⟩, ⟨hle, ?_, by simp [W'], rfl, rfl, rfl, ?_, ?_, ?_, ?_⟩⟩
  · intro j e hj
    show j < A.next + 1
    rcases hext j e hj with ⟨rfl, rfl⟩ | ⟨_, hm⟩
    · omega
    · have := h.dom j e hm; omega
  · intro j e hj
    rcases hext j e hj with ⟨rfl, rfl⟩ | ⟨_, hm⟩
    · simpa [W', en'] using h.lt b en hb
    · simpa [W'] using h.lt j e hm
  · intro j e r' hj hr' hst'
    rw [hget] at hr'
    rcases hext j e hj with ⟨rfl, rfl⟩ | ⟨hne, hm⟩
    · rw [if_pos rfl] at hr'
      simp at hr'
      subst hr'
      refine ⟨_, fr, ⟨_, hWc, fun _ => rfl⟩, ⟨by simp [en', hlen], rfl, by simp only [en']; omega, k.s, by rw [aputs_size]; exact hsz, ?_, ?_, ?_, ?_, fun e1 => by simp at e1⟩⟩
      · intro i v hv
        simp only at hv
        by_cases hi : i < en.n - o
        · rw [List.getElem?_append_left (by simp; omega), List.getElem?_drop] at hv
          obtain ⟨v', hv', hrel⟩ := k.cells _ v hv
          refine ⟨v', ?_, hrel.mono hle⟩
          simp only [en']
          rw [hcs' _ (by omega), ← hv']
          congr 1; omega
        · rw [List.getElem?_append_right (by simp; omega)] at hv
          obtain ⟨v', hv', hrel⟩ := hl.get hv
          refine ⟨v', ?_, hrel.mono hle⟩
          simp only [en']
          have hi2 : i - (r.cells.drop o).length < ys.length := by
            rcases Nat.lt_or_ge (i - (r.cells.drop o).length) ys.length with h1 | h1
            · exact h1
            · rw [List.getElem?_eq_none h1] at hv'; cases hv'
          simp at hi2 hv'
          rw [aputs_get _ _ _ _ (by omega), if_pos (by omega), ← hv']
          congr 1; omega
      · intro hst3 i a1 a2
        simp only [en'] at a1 a2
        refine k.wr hst3 i (by omega) ?_
        rw [hx] at *
        simp at a2 ⊢
        exact a2
      · intro _ _ i a1 a2
        simp only [en'] at a1 a2
        exact hnofz i (by omega) a2
      · intro _ hf
        simp only [en']
        rcases k.fz hst hf with e1 | e1
        · exact .inl e1
        · exact .inr (by omega)
    · rw [if_neg hne] at hr'
      by_cases hjb : j = b
      · subst hjb
        rw [hb] at hm; cases hm
        rw [if_pos rfl] at hr'
        simp at hr'
        subst hr'
        refine ⟨_, fr, ⟨_, hWc, fun _ => rfl⟩, ⟨hlen, k.x, hkf, k.s, by rw [aputs_size]; exact hsz, ?_, fun e1 => by simp at e1, fun e1 => by simp at e1, fun e1 => by simp at e1, k.xd⟩⟩
        intro i v hv
        obtain ⟨v', hv', hrel⟩ := k.cells i v hv
        have hi : i < r.cells.length := by
          rcases Nat.lt_or_ge i r.cells.length with h1 | h1
          · exact h1
          · rw [List.getElem?_eq_none h1] at hv; cases hv
        exact ⟨v', by rw [hcs' _ (by omega)]; exact hv', hrel.mono hle⟩
      · rw [if_neg hjb] at hr'
        obtain ⟨cs2, fr2, ⟨te, hW2, hte⟩, k2⟩ := h.row j e r' hm hr' hst'
        by_cases hc : e.c = en.c
        · obtain ⟨_, hnw, hfit2⟩ := hother j e _ hm hjb hr' (by simp [AObj.alive]; omega) hc
          rw [hc] at hW2
          rw [hW] at hW2
          simp at hW2
          obtain ⟨e1, e2, e3⟩ := hW2
          subst e1; subst e3
          have hn2 : ¬ 2 ≤ r'.st := by simpa [AObj.writable] using hnw
          refine ⟨_, fr, ⟨_, by rw [hc]; exact hWc, fun h => e2.trans (hte h)⟩, ⟨k2.len, k2.x, k2.fit, k2.s, by rw [aputs_size]; exact k2.size, ?_, fun e1 => by omega, fun e1 => by omega, fun e1 => by omega, k2.xd⟩⟩
          intro i v hv
          obtain ⟨v', hv', hrel⟩ := k2.cells i v hv
          have hi : i < r'.cells.length := by
            rcases Nat.lt_or_ge i r'.cells.length with h1 | h1
            · exact h1
            · rw [List.getElem?_eq_none h1] at hv; cases hv
          have := k2.len
          exact ⟨v', by rw [hcs' _ (by omega)]; exact hv', hrel.mono hle⟩
        · exact ⟨cs2, fr2, ⟨te, by rw [show W'.heap[e.c]? = W.heap[e.c]? from putB_other hc]; exact hW2, hte⟩, k2.mono hle⟩
  · intro j e l hj hl'
    rw [hget] at hl'
    rcases hext j e hj with ⟨rfl, rfl⟩ | ⟨hne, hm⟩
    · rw [if_pos rfl] at hl'; simp at hl'
    · rw [if_neg hne] at hl'
      by_cases hjb : j = b
      · rw [if_pos hjb] at hl'; simp at hl'
      · rw [if_neg hjb] at hl'
        obtain ⟨lo, hW2, a1, a2, a3, a4, a5, a6⟩ := h.loop j e l hm hl'
        have hc : e.c ≠ en.c := by
          intro hc
          rw [hc, hW] at hW2
          simp at hW2
        exact ⟨lo, by rw [show W'.heap[e.c]? = W.heap[e.c]? from putB_other hc]; exact hW2, a1, a2, a3, a4, a5, a6.mono hle⟩
  · intro j e o1 j' e' o2 hj ho1 hw1 hj' ho2 ha2 hc
    rw [hget] at ho1 ho2
    rcases hext j e hj with ⟨rfl, rfl⟩ | ⟨hne, hm⟩
    · rw [if_pos rfl] at ho1
      simp at ho1
      subst ho1
      rcases hext j' e' hj' with ⟨rfl, rfl⟩ | ⟨hne', hm'⟩
      · exact .inl rfl
      · rw [if_neg hne'] at ho2
        refine .inr ?_
        by_cases hjb : j' = b
        · subst hjb
          rw [hb] at hm'; cases hm'
          rw [if_pos rfl] at ho2
          simp at ho2
          subst ho2
          exact ⟨by simp [AObj.chain], by simp [AObj.writable], by simp only [en']; omega⟩
        · rw [if_neg hjb] at ho2
          obtain ⟨x1, x2, x3⟩ := hother j' e' o2 hm' hjb ho2 ha2 hc
          exact ⟨by simp [AObj.chain, x1], x2, by simp only [en']; omega⟩
    · rw [if_neg hne] at ho1
      by_cases hjb : j = b
      · rw [if_pos hjb] at ho1
        simp at ho1
        subst ho1
        simp [AObj.writable] at hw1
      · rw [if_neg hjb] at ho1
        rcases hext j' e' hj' with ⟨rfl, rfl⟩ | ⟨hne', hm'⟩
        · -- the new row lies in b's block: then j would own b's block
          have hb' : en.c = e.c := hc
          rcases h.own j e o1 b en (.row r) hm ho1 hw1 hb hr (by simp [AObj.alive]; omega) hb' with e1 | ⟨_, e1, _⟩
          · exact absurd e1.symm hjb
          · rw [hwr] at e1; cases e1
        · rw [if_neg hne'] at ho2
          by_cases hj'b : j' = b
          · subst hj'b
            rw [hb] at hm'; cases hm'
            rcases h.own j e o1 j' en (.row r) hm ho1 hw1 hb hr (by simp [AObj.alive]; omega) hc with e1 | ⟨_, e1, _⟩
            · exact .inl e1
            · rw [hwr] at e1; cases e1
          · rw [if_neg hj'b] at ho2
            exact h.own j e o1 j' e' o2 hm ho1 hw1 hm' ho2 ha2 hc
  · show A.next ≤ A.next + 1
    omega
  · intro c hc hfw
    by_cases hcc : c = en.c
    · have := hfw b en _ hb hcc.symm hr
      rw [hwr] at this; cases this
    · exact putB_other hcc
  · intro j e hj hlt
    rcases hext j e hj with ⟨rfl, rfl⟩ | ⟨hne, hm⟩
    · exact ⟨b, en, hb, rfl⟩
    · exact ⟨j, e, hm, rfl⟩
  · intro j e o1 hj ho1 hw1 hlt
    rw [hget] at ho1
    rcases hext j e hj with ⟨rfl, rfl⟩ | ⟨hne, hm⟩
    · exact ⟨b, en, _, hb, hr, hwr, rfl⟩
    · rw [if_neg hne] at ho1
      by_cases hjb : j = b
      · rw [if_pos hjb] at ho1
        simp at ho1
        subst ho1
        simp [AObj.writable] at hw1
      · rw [if_neg hjb] at ho1
        exact ⟨j, e, o1, hm, ho1, hw1, rfl⟩
  · intro c lo hc
    have hcc : c ≠ en.c := fun e => by rw [e, hW] at hc; cases hc
    exact ⟨lo, by rw [show W'.heap[c]? = W.heap[c]? from putB_other hcc]; exact hc⟩
end Go.Sh
