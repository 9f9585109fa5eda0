/- Shadow, part 5: a row of which less may be done; a row whose cells a string shares. -/
import Derived.Test.YteoefjahcbfpeaaShD
namespace Go.Sh
open Go

/-- A row of which less may be done from now on; its cells stay as they are. -/
theorem Sim.lower {P : Program} {m : Map} {A : AHeap} {W W' : World} (h : Sim P m A W) {b : Nat} {en : Ent} {r : Row} {st : Nat} (hb : m b = some en)
    (hr : A.get b = some (.row r)) (h1 : 1 ≤ st) (h2 : st ≤ r.st)
    (hsize : W'.heap.size = W.heap.size) (hother : ∀ c, c ≠ en.c → W'.heap[c]? = W.heap[c]?) (htape : W'.tape = W.tape) (hos : W'.os = W.os) (hout : W'.output = W.output)
    (hsame : r.st < 2 → W'.heap[en.c]? = W.heap[en.c]?)
    (hnew : ∀ cs t fr, W.heap[en.c]? = some (.cells cs t fr) → ∃ fr', W'.heap[en.c]? = some (.cells cs t fr') ∧
      (RowIn P m r en cs fr → RowIn P m { r with st := st } en cs fr') ) :
    Sim P m (A.set b (.row { r with st := st })) W' ∧ Step m A W m (A.set b (.row { r with st := st })) W' := by
  have hget : ∀ j, (A.set b (.row { r with st := st })).get j = if j = b then some (.row { r with st := st }) else A.get j := fun j => AHeap.get_set _ _ _ _
  obtain ⟨cs0, fr0, ⟨te0, hW0, hte0⟩, k0⟩ := h.row b en r hb hr (by omega)
  obtain ⟨fr1, hW1, hk1⟩ := hnew cs0 te0 fr0 hW0
  refine ⟨⟨h.dom, fun j e hj => by rw [hsize]; exact h.lt j e hj, ?_, ?_, ?_⟩, ⟨Map.le.refl m, Nat.le_refl _, by omega, htape, hos, hout, ?_, fun j e hj _ => ⟨j, e, hj, rfl⟩, ?_, fun c lo hc => ⟨lo, by rw [hother c (fun e => by rw [e, hW0] at hc; cases hc)]; exact hc⟩⟩⟩
  · intro j e r' hj hr' hst'
    rw [hget] at hr'
    by_cases hjb : j = b
    · subst hjb
      rw [hb] at hj; cases hj
      rw [if_pos rfl] at hr'
      simp at hr'
      subst hr'
      exact ⟨cs0, fr1, ⟨te0, hW1, fun e => hte0 (e.imp (fun x => Nat.le_trans x h2) id)⟩, hk1 k0⟩
    · rw [if_neg hjb] at hr'
      obtain ⟨cs, fr, ⟨te, hW, hte⟩, k⟩ := h.row j e r' hj hr' hst'
      by_cases hc : e.c = en.c
      · by_cases hlt : r.st < 2
        · exact ⟨cs, fr, ⟨te, by rw [hc, hsame hlt, ← hc]; exact hW, hte⟩, k⟩
        · rcases h.own b en (.row r) j e (.row r') hb hr (by simp [AObj.writable]; omega) hj hr' (by simp [AObj.alive]; omega) hc with e1 | ⟨_, e1, _⟩
          · exact absurd e1 hjb
          · rw [hc] at hW
            rw [hW0] at hW
            simp at hW
            obtain ⟨x1, x2, x3⟩ := hW
            subst x1; subst x3
            have hn2 : ¬ 2 ≤ r'.st := by simpa [AObj.writable] using e1
            refine ⟨cs0, fr1, ⟨te0, by rw [hc]; exact hW1, fun e => x2.trans (hte e)⟩, ⟨k.len, k.x, k.fit, k.s, k.size, k.cells, fun x => by omega, fun x => by omega, fun x => by omega, k.xd⟩⟩
      · exact ⟨cs, fr, ⟨te, by rw [hother _ hc]; exact hW, hte⟩, k⟩
  · intro j e l hj hl
    rw [hget] at hl
    by_cases hjb : j = b
    · rw [if_pos hjb] at hl; simp at hl
    · rw [if_neg hjb] at hl
      obtain ⟨lo, hW, k⟩ := h.loop j e l hj hl
      have hc : e.c ≠ en.c := by
        intro hc
        rw [hc, hW0] at hW
        simp at hW
      exact ⟨lo, by rw [hother _ hc]; exact hW, k⟩
  · intro j e o1 j' e' o2 hj ho1 hw1 hj' ho2 ha2 hc
    rw [hget] at ho1 ho2
    have hlow : ∀ j' e' o2, m j' = some e' → (if j' = b then some (AObj.row { r with st := st }) else A.get j') = some o2 → o2.alive = true →
        ∃ o3, A.get j' = some o3 ∧ o3.alive = true ∧ (o3.writable = false → o2.writable = false) := by
      intro j' e' o2 hj' ho2 ha2
      by_cases hjb : j' = b
      · subst hjb
        rw [if_pos rfl] at ho2
        simp at ho2
        subst ho2
        exact ⟨_, hr, by simp [AObj.alive]; omega, by simp [AObj.writable]; omega⟩
      · rw [if_neg hjb] at ho2
        exact ⟨o2, ho2, ha2, id⟩
    obtain ⟨o3, hg3, ha3, hw3⟩ := hlow j' e' o2 hj' ho2 ha2
    by_cases hjb : j = b
    · subst hjb
      rw [hb] at hj; cases hj
      rw [if_pos rfl] at ho1
      simp at ho1
      subst ho1
      simp [AObj.writable] at hw1
      rcases h.own j en (.row r) j' e' o3 hb hr (by simp [AObj.writable]; omega) hj' hg3 ha3 hc with e1 | ⟨x1, x2, x3⟩
      · exact .inl e1
      · exact .inr ⟨x1, hw3 x2, x3⟩
    · rw [if_neg hjb] at ho1
      rcases h.own j e o1 j' e' o3 hj ho1 hw1 hj' hg3 ha3 hc with e1 | ⟨x1, x2, x3⟩
      · exact .inl e1
      · exact .inr ⟨x1, hw3 x2, x3⟩
  · intro c hc hfw
    by_cases hcc : c = en.c
    · subst hcc
      by_cases hlt : r.st < 2
      · exact hsame hlt
      · have := hfw b en _ hb rfl hr
        simp [AObj.writable] at this
        omega
    · exact hother c hcc
  · intro j e o1 hj ho1 hw1 _
    rw [hget] at ho1
    by_cases hjb : j = b
    · subst hjb
      rw [hb] at hj; cases hj
      rw [if_pos rfl] at ho1
      simp at ho1
      subst ho1
      simp [AObj.writable] at hw1
      exact ⟨j, en, _, hb, hr, by simp [AObj.writable]; omega, rfl⟩
    · rw [if_neg hjb] at ho1
      exact ⟨j, e, o1, hj, ho1, hw1, rfl⟩

theorem RowIn.low {P : Program} {m : Map} {r : Row} {en : Ent} {cs : Array Value} {fr : Nat × Nat} (k : RowIn P m r en cs fr) {st : Nat} (h : st ≤ r.st) (h3 : r.st ≤ 3) :
    RowIn P m { r with st := st } en cs fr :=
  ⟨k.len, k.x, k.fit, k.s, k.size, k.cells, fun e => k.wr (by simp at e; omega), fun e => k.ap (by simp at e; omega), fun e => k.fz (by simp at e; omega), k.xd⟩

/-- Less may be done with row b; the machine's memory is as it was. -/
theorem Sim.weaken {P : Program} {m : Map} {A : AHeap} {W : World} (h : Sim P m A W) {b : Nat} {en : Ent} {r : Row} {st : Nat} (hb : m b = some en)
    (hr : A.get b = some (.row r)) (h1 : 1 ≤ st) (h2 : st ≤ r.st) (h3 : r.st ≤ 3) :
    Sim P m (A.set b (.row { r with st := st })) W ∧ Step m A W m (A.set b (.row { r with st := st })) W :=
  h.lower hb hr h1 h2 rfl (fun _ _ => rfl) rfl rfl rfl (fun _ => rfl) fun _ _ fr hW => ⟨fr, hW, fun k => k.low h2 h3⟩

/-- n cells of row b, from o on, are a string's from now on: they are written no more. -/
theorem Sim.freeze {P : Program} {m : Map} {A : AHeap} {W : World} (h : Sim P m A W) {b o n : Nat} {en : Ent} {r : Row} (hb : m b = some en)
    (hr : A.get b = some (.row r)) (hst : 2 ≤ r.st) (hst3 : r.st ≤ 3) (hfz : r.fz = false) (hn : 0 < n) (ho : o + n ≤ r.cells.length) :
    Sim P m (A.set b (.row { r with st := 2 })) (W.freeze ⟨en.c, en.d + o, none⟩ n) ∧ Step m A W m (A.set b (.row { r with st := 2 })) (W.freeze ⟨en.c, en.d + o, none⟩ n) := by
  have hn0 : ¬ n = 0 := by omega
  have hfreeze : ∀ i, (W.freeze ⟨en.c, en.d + o, none⟩ n).heap[i]? = if en.c = i then (W.heap[i]?).map (fun
      | .cells c elem (lo, hi) => .cells c elem (if lo == hi then (en.d + o, en.d + o + n) else (min lo (en.d + o), max hi (en.d + o + n)))
      | o => o) else W.heap[i]? := by
    intro i
    simp only [World.freeze, hn0, if_false, Array.getElem?_modify]
    rfl
  refine h.lower hb hr (by omega) hst (by simp [World.freeze, hn0]) ?_ (by simp [World.freeze, hn0]) (by simp [World.freeze, hn0]) (by simp [World.freeze, hn0]) (fun e => by omega) ?_
  · intro c hc
    rw [hfreeze, if_neg (by omega)]
  · intro cs t fr hW
    obtain ⟨lo, hi⟩ := fr
    refine ⟨if lo == hi then (en.d + o, en.d + o + n) else (min lo (en.d + o), max hi (en.d + o + n)), by rw [hfreeze, if_pos rfl, hW]; rfl, fun k => ?_⟩
    have hlen := k.len
    have hz := k.fz hst hfz
    simp only at hz
    refine ⟨k.len, k.x, k.fit, k.s, k.size, k.cells, fun e => by simp at e, ?_, ?_, k.xd⟩
    · intro _ hx i a1 a2
      have := k.ap hst hx i a1 a2
      simp only at this
      by_cases hlh : lo = hi
      · simp [hlh]; omega
      · simp [hlh]; omega
    · intro _ _
      by_cases hlh : lo = hi
      · simp [hlh]; omega
      · simp [hlh]; omega
end Go.Sh
