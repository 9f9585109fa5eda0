/- Shadow, part 24: what comes in: slices that are read alone; from an abstract call to the machine's. -/
import Derived.Test.YteoefjahcbfpeaaShW
import Derived.Test.YteoefjahcbfpeaaShY
import Derived.Carry
namespace Go.Sh
open Go

/-- A memory that nobody may write. -/
structure Base (P : Program) (m : Map) (A : AHeap) (W : World) : Prop where
  sim : Sim P m A W
  ro : ∀ b o, A.get b = some o → o.writable = false

theorem Base.empty (P : Program) (W : World) : Base P (fun _ => none) A00 W := ⟨sim_A00 P W, by intro b o h; cases h⟩

/-- A row of the machine's memory, to be read. -/
theorem Base.add {P : Program} {m : Map} {A : AHeap} {W : World} (h : Base P m A W) {c d s : Nat} {cs : Array Value} {t : TypeId} {fr : Nat × Nat} {xs : List Value} {el : TypeId} (hW : W.heap[c]? = some (.cells cs t fr))
    (hs : (P.info? el).map (·.size) = some s) (hfit : d + xs.length ≤ cs.size) (hr : ∀ (i : Nat) (v : Value), xs[i]? = some v → ∃ v', cs[d + i]? = some v' ∧ VRel m v v') :
    ∃ A' en, A' = A.alloc (.row ⟨xs, el, false, 1, [], false⟩) ∧ en = (⟨c, d, xs.length, cs.size, s, false⟩ : Ent) ∧ Base P (m.ext A.next en) A' W ∧ m.le (m.ext A.next en) ∧ Ext A A' ∧ Dat A' A.next el xs := by
  have hnone : m A.next = none := by
    cases hm : m A.next with
    | none => rfl
    | some en => have := h.sim.dom _ _ hm; omega
  have hle := Map.le_ext m A.next (⟨c, d, xs.length, cs.size, s, false⟩ : Ent) hnone
  have hext : ∀ b en, (m.ext A.next (⟨c, d, xs.length, cs.size, s, false⟩ : Ent)) b = some en → (b = A.next ∧ en = ⟨c, d, xs.length, cs.size, s, false⟩) ∨ (b ≠ A.next ∧ m b = some en) := by
    intro b en hb
    unfold Map.ext at hb
    by_cases hc : b = A.next
    · rw [if_pos hc] at hb; cases hb; exact .inl ⟨hc, rfl⟩
    · rw [if_neg hc] at hb; exact .inr ⟨hc, hb⟩
  refine ⟨_, _, rfl, rfl, ⟨⟨?_, ?_, ?_, ?_, ?_⟩, ?_⟩, hle, Ext.alloc _ _, by simp, ⟨xs, el, false, 1, [], false⟩, by rw [AHeap.get_alloc, if_pos rfl], rfl, by simp, rfl, rfl⟩
  · intro b en hb
    rcases hext b en hb with ⟨rfl, rfl⟩ | ⟨_, hm⟩
    · simp
    · have := h.sim.dom b en hm; simp; omega
  · intro b en hb
    rcases hext b en hb with ⟨rfl, rfl⟩ | ⟨_, hm⟩
    · exact lt_of_get hW
    · exact h.sim.lt b en hm
  · intro b en r hb hg hst
    rw [AHeap.get_alloc] at hg
    rcases hext b en hb with ⟨rfl, rfl⟩ | ⟨hne, hm⟩
    · rw [if_pos rfl] at hg
      simp only [Option.some.injEq, AObj.row.injEq] at hg
      subst hg
      refine ⟨cs, fr, ⟨t, hW, fun e => by simp at e⟩, ⟨rfl, rfl, hfit, hs, rfl, ?_, fun e => by simp at e, fun e => by simp at e, fun e => by simp at e, fun e => by simp at e⟩⟩
      intro i v hv
      obtain ⟨v', h1, h2⟩ := hr i v hv
      exact ⟨v', h1, h2.mono hle⟩
    · rw [if_neg hne] at hg
      obtain ⟨cs', fr', k1, k2⟩ := h.sim.row b en r hm hg hst
      exact ⟨cs', fr', k1, k2.mono hle⟩
  · intro b en l hb hg
    rw [AHeap.get_alloc] at hg
    rcases hext b en hb with ⟨rfl, rfl⟩ | ⟨hne, hm⟩
    · rw [if_pos rfl] at hg; simp at hg
    · rw [if_neg hne] at hg
      have := h.ro _ _ hg
      simp [AObj.writable] at this
  · intro b en o b' en' o' hb hg hw
    rw [AHeap.get_alloc] at hg
    by_cases hc : b = A.next
    · rw [if_pos hc] at hg; simp only [Option.some.injEq] at hg; subst hg; simp [AObj.writable] at hw
    · rw [if_neg hc] at hg
      rw [h.ro _ _ hg] at hw
      cases hw
  · intro b o hg
    rw [AHeap.get_alloc] at hg
    by_cases hc : b = A.next
    · rw [if_pos hc] at hg; simp only [Option.some.injEq] at hg; subst hg; simp [AObj.writable]
    · rw [if_neg hc] at hg; exact h.ro _ _ hg

/-- A cell of the machine's memory: its block. -/
theorem block_of_cell {W : World} {a : Addr} {v : Value} (h : W.cell? a = some v) : ∃ cs t fr, W.heap[a.block]? = some (.cells cs t fr) ∧ a.spot = none ∧ cs[a.off]? = some v := by
  unfold World.cell? at h
  split at h
  · rename_i cs t fr hW
    split at h
    · cases h
    · rename_i hs
      exact ⟨cs, t, fr, hW, by simpa using hs, h⟩
  · cases h

theorem cell_of_add {W : World} {a : Addr} {cs : Array Value} {t : TypeId} {fr : Nat × Nat} (hW : W.heap[a.block]? = some (.cells cs t fr)) {i : Nat} {v : Value} (h : W.cell? (a.add i) = some v) : cs[a.off + i]? = some v := by
  have hb : (a.add i).block = a.block := by unfold Addr.add; split <;> rfl
  have ho : (a.add i).off = a.off + i := by
    unfold Addr.add
    split
    · rename_i h0; rw [h0]; rfl
    · rfl
  obtain ⟨cs', t', fr', h1, _, h3⟩ := block_of_cell h
  rw [hb, hW] at h1
  simp only [Option.some.injEq, Obj.cells.injEq] at h1
  rw [h1.1, ← ho]
  exact h3

/-- A slice that comes in, as one that is read: n of its elements' cells by what they stand for. -/
theorem Base.slice {P : Program} {m : Map} {A : AHeap} {W : World} (h : Base P m A W) {el : TypeId} {s : Nat} (hs : (P.info? el).map (·.size) = some s) (hs0 : 0 < s) {a : Addr} {len cap : Nat} (hlc : len ≤ cap) {ys : Nat → Value}
    (hc : ∀ i, i < cap * s → W.cell? (a.add i) = some (ys i)) {xs : List Value} (hx : xs.length = len * s) (hr : ∀ (i : Nat) (v : Value), xs[i]? = some v → VRel m v (ys i)) :
    ∃ m' A' v, Base P m' A' W ∧ m.le m' ∧ Ext A A' ∧ VRel m' v (.slice (some a) len cap) ∧ Elems A' el s v len xs := by
  rcases Nat.eq_zero_or_pos cap with h0 | h0
  · have hl0 : len = 0 := by omega
    subst h0; subst hl0
    refine ⟨m, A, .slice (some ⟨0, 0, some 0⟩) 0 0, h, Map.le.refl m, Fr.refl _ _, .dead 0 0 0 a, ?_, .inl ⟨.inr ⟨0, 0, 0, rfl⟩, rfl⟩⟩
    simpa using hx
  · have hcs0 : 0 < cap * s := Nat.mul_pos h0 hs0
    obtain ⟨cs, t, fr, hW, hspot, _⟩ := block_of_cell (hc 0 hcs0)
    have e0 : a.add 0 = a := rfl
    rw [e0] at hW hspot
    have hall : ∀ i, i < cap * s → cs[a.off + i]? = some (ys i) := fun i hi => cell_of_add hW (hc i hi)
    have hend : a.off + cap * s ≤ cs.size := by
      have := hall (cap * s - 1) (by omega)
      have := (Array.getElem?_eq_some_iff.1 this).1
      omega
    have hle : len * s ≤ cap * s := Nat.mul_le_mul_right s hlc
    obtain ⟨A', en, hA', hen, hB, hm, hE, hD⟩ := h.add (el := el) (d := a.off) (xs := xs) hW hs (by omega) fun i v hv => by
      have hi : i < xs.length := by
        rcases Nat.lt_or_ge i xs.length with hl | hl
        · exact hl
        · rw [List.getElem?_eq_none hl] at hv; cases hv
      exact ⟨ys i, hall i (by omega), hr i v hv⟩
    refine ⟨_, A', .slice (some ⟨A.next, 0, none⟩) len len, hB, hm, hE, ?_, hx, .inr ⟨A.next, rfl, hD⟩⟩
    have ha : a = ⟨en.c, en.d + 0, none⟩ := by
      subst hen
      obtain ⟨b, o, sp⟩ := a
      simp only at hspot
      rw [hspot]
      rfl
    have hself : (m.ext A.next en) A.next = some en := by unfold Map.ext; rw [if_pos rfl]
    rw [ha]
    refine .slice hself (.inr ?_)
    subst hen
    exact ⟨rfl, by simp [hx], hs0, hlc, by simpa using hend⟩

/-- From an abstract call to the machine's. -/
theorem calls_of {K : Ctx} (hK : CtxOK K) {m : Map} {A : AHeap} {W : World} (hB : Base K.P m A W) {g : FuncId} {args args' : Array Value} (ha : ARel m args args')
    (h : Cal K g args A fun v _ => v = .bool true) : Calls K.P g args' W fun e W' => e = .returned (.bool true) ∧ RowKit.Below W.heap.size W W' := by
  obtain ⟨n, v, A', hc, rfl⟩ := h
  have h2 := ((recOK_all hK n).call g args A _ A' hc m args' W hB.sim ha).2
  have h3 : CallsIn Fence.wide 0 K.P g args' W (CallPost K.P m A W A' (.bool true)) := h2
  have h4 := callsIn_wide.1 h3
  refine h4.mono ?_
  rintro e W' ⟨v', m', rfl, hv, hS, hst⟩
  cases hv
  exact ⟨rfl, hst.os, hst.tape, hst.output, hst.size, fun k hk => hst.frame k hk fun b en o _ _ hg => hB.ro b o hg⟩
end Go.Sh
