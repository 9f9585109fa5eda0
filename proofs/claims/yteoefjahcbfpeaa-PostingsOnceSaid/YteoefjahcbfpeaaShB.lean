/- Shadow, part 2: how the model's memory stands to the abstract one (Sim); what a step keeps (Step); loads, stores, new blocks. -/
import Derived.Test.YteoefjahcbfpeaaShA
namespace Go.Sh
open Go

/-- A row of cells as it lies in the machine's block. -/
structure RowIn (P : Program) (m : Map) (r : Row) (en : Ent) (cs : Array Value) (fr : Nat × Nat) : Prop where
  len : r.cells.length = en.n
  x : en.x = r.x
  fit : en.d + en.n ≤ en.e
  s : (P.info? r.elem).map (·.size) = some en.s
  size : cs.size = en.e
  cells : ∀ (i : Nat) (v : Value), r.cells[i]? = some v → ∃ v', cs[en.d + i]? = some v' ∧ VRel m v v'
  wr : r.st = 3 → ∀ i, en.d ≤ i → i < (if r.x then en.d + en.n else en.e) → ¬ (fr.1 ≤ i ∧ i < fr.2)
  ap : 2 ≤ r.st → r.x = false → ∀ i, en.d + en.n ≤ i → i < en.e → ¬ (fr.1 ≤ i ∧ i < fr.2)
  fz : 2 ≤ r.st → r.fz = false → fr.1 = fr.2 ∨ fr.2 ≤ en.d + en.n
  xd : r.x = true → en.d = 0 ∧ en.e = en.n

def RowRel (P : Program) (m : Map) (r : Row) (en : Ent) (W : World) : Prop :=
  ∃ cs fr, (∃ t, W.heap[en.c]? = some (.cells cs t fr) ∧ (2 ≤ r.st ∨ r.x = true → t = r.elem)) ∧ RowIn P m r en cs fr

/-- The temporaries of an activation: nt of them. -/
structure ERel (m : Map) (nt : Nat) (e : Nat → Value) (tmps : Array Value) : Prop where
  size : tmps.size = nt
  val : ∀ t, VRel m (e t) (tmps.getD t undef)

def LoopRel (m : Map) (l : ALoop) (en : Ent) (W : World) : Prop :=
  ∃ lo : Loop, W.heap[en.c]? = some (.loop lo) ∧ lo.state = l.state ∧ lo.pending = l.pending ∧ lo.params = l.params ∧ lo.assign = l.assign ∧
    lo.body = l.body ∧ ERel m l.nt l.env lo.tmps

theorem ERel.mono {m m' : Map} (h : m.le m') {nt : Nat} {e : Nat → Value} {a : Array Value} (r : ERel m nt e a) : ERel m' nt e a := ⟨r.size, fun t => (r.val t).mono h⟩

theorem RowIn.mono {P : Program} {m m' : Map} (h : m.le m') {r : Row} {en : Ent} {cs : Array Value} {fr : Nat × Nat} (k : RowIn P m r en cs fr) : RowIn P m' r en cs fr :=
  { k with cells := fun i v hv => let ⟨v', a, b⟩ := k.cells i v hv; ⟨v', a, b.mono h⟩ }

structure Sim (P : Program) (m : Map) (A : AHeap) (W : World) : Prop where
  dom : ∀ b en, m b = some en → b < A.next
  lt : ∀ b en, m b = some en → en.c < W.heap.size
  row : ∀ b en r, m b = some en → A.get b = some (.row r) → r.st ≠ 0 → RowRel P m r en W
  loop : ∀ b en l, m b = some en → A.get b = some (.loop l) → LoopRel m l en W
  own : ∀ b en o b' en' o', m b = some en → A.get b = some o → o.writable = true → m b' = some en' → A.get b' = some o' → o'.alive = true →
    en'.c = en.c → b' = b ∨ (b' ∈ o.chain ∧ o'.writable = false ∧ en'.d + en'.n ≤ en.d + en.n)

structure Step (m : Map) (A : AHeap) (W : World) (m' : Map) (A' : AHeap) (W' : World) : Prop where
  mono : m.le m'
  next : A.next ≤ A'.next
  size : W.heap.size ≤ W'.heap.size
  tape : W'.tape = W.tape
  os : W'.os = W.os
  output : W'.output = W.output
  frame : ∀ c, c < W.heap.size → (∀ b en o, m b = some en → en.c = c → A.get b = some o → o.writable = false) → W'.heap[c]? = W.heap[c]?
  rng : ∀ b en, m' b = some en → en.c < W.heap.size → ∃ b0 en0, m b0 = some en0 ∧ en0.c = en.c
  wr : ∀ b en o, m' b = some en → A'.get b = some o → o.writable = true → en.c < W.heap.size →
    ∃ b0 en0 o0, m b0 = some en0 ∧ A.get b0 = some o0 ∧ o0.writable = true ∧ en0.c = en.c
  loops : ∀ (c : Nat) (lo : Loop), W.heap[c]? = some (.loop lo) → ∃ lo', W'.heap[c]? = some (.loop lo')

theorem lt_of_get {H : Array Obj} {c : Nat} {o : Obj} (h : H[c]? = some o) : c < H.size := by
  rcases Nat.lt_or_ge c H.size with hl | hl
  · exact hl
  · rw [Array.getElem?_eq_none hl] at h; cases h

theorem Step.refl (m : Map) (A : AHeap) (W : World) : Step m A W m A W :=
  ⟨Map.le.refl m, Nat.le_refl _, Nat.le_refl _, rfl, rfl, rfl, fun _ _ _ => rfl, fun b en h _ => ⟨b, en, h, rfl⟩, fun b en o h h1 h2 _ => ⟨b, en, o, h, h1, h2, rfl⟩, fun _ lo h => ⟨lo, h⟩⟩

theorem Step.trans {m1 m2 m3 : Map} {A1 A2 A3 : AHeap} {W1 W2 W3 : World} (h : Step m1 A1 W1 m2 A2 W2) (k : Step m2 A2 W2 m3 A3 W3) : Step m1 A1 W1 m3 A3 W3 := by
  refine ⟨h.mono.trans k.mono, Nat.le_trans h.next k.next, Nat.le_trans h.size k.size, k.tape.trans h.tape, k.os.trans h.os, k.output.trans h.output, ?_, ?_, ?_, fun c lo x => let ⟨lo1, y⟩ := h.loops c lo x; k.loops c lo1 y⟩
  · intro c hc hw
    rw [k.frame c (Nat.lt_of_lt_of_le hc h.size) ?_, h.frame c hc hw]
    intro b en o hb hec ho
    cases hwo : o.writable with
    | false => rfl
    | true =>
      obtain ⟨b0, en0, o0, a, b1, c1, d1⟩ := h.wr b en o hb ho hwo (hec ▸ hc)
      have := hw b0 en0 o0 a (d1.trans hec) b1
      rw [this] at c1; cases c1
  · intro b en hb hlt
    obtain ⟨b1, en1, x, y⟩ := k.rng b en hb (Nat.lt_of_lt_of_le hlt h.size)
    obtain ⟨b0, en0, x0, y0⟩ := h.rng b1 en1 x (y ▸ hlt)
    exact ⟨b0, en0, x0, y0.trans y⟩
  · intro b en o hb ho hw hlt
    obtain ⟨b1, en1, o1, x, y, z, u⟩ := k.wr b en o hb ho hw (Nat.lt_of_lt_of_le hlt h.size)
    obtain ⟨b0, en0, o0, x0, y0, z0, u0⟩ := h.wr b1 en1 o1 x y z (u ▸ hlt)
    exact ⟨b0, en0, o0, x0, y0, z0, u0.trans u⟩

/-- A block of the machine's that no abstract block lies in. -/
def Free (m : Map) (c : Nat) : Prop := ∀ b en, m b = some en → en.c ≠ c

theorem Step.free {m m' : Map} {A A' : AHeap} {W W' : World} (h : Step m A W m' A' W') {c : Nat} (hf : Free m c) (hc : c < W.heap.size) :
    Free m' c ∧ W'.heap[c]? = W.heap[c]? := by
  refine ⟨fun b en hb e => ?_, h.frame c hc fun b en o hb e _ => absurd e (hf b en hb)⟩
  obtain ⟨b0, en0, x, y⟩ := h.rng b en hb (by omega)
  exact hf b0 en0 x (by omega)

/-- A world that differs in its draws alone. -/
theorem Sim.drew {P : Program} {m : Map} {A : AHeap} {W : World} (h : Sim P m A W) (n : Nat) : Sim P m A { W with drawn := n } :=
  ⟨h.dom, h.lt, h.row, h.loop, h.own⟩
theorem Step.drew {m m' : Map} {A A' : AHeap} {W W' : World} (h : Step m A W m' A' W') (n : Nat) : Step m A W m' A' { W' with drawn := n } :=
  ⟨h.mono, h.next, h.size, h.tape, h.os, h.output, h.frame, h.rng, h.wr, h.loops⟩

/-- The same blocks under another spelling. -/
theorem Sim.congr {P : Program} {m : Map} {A A' : AHeap} {W : World} (h : Sim P m A W) (hg : ∀ b, A'.get b = A.get b) (hn : A'.next = A.next) : Sim P m A' W := by
  refine ⟨fun b en hb => hn ▸ h.dom b en hb, h.lt, ?_, ?_, ?_⟩
  · intro b en r hb hr; rw [hg] at hr; exact h.row b en r hb hr
  · intro b en l hb hr; rw [hg] at hr; exact h.loop b en l hb hr
  · intro b en o b' en' o' hb ho hw hb' ho'; rw [hg] at ho ho'; exact h.own b en o b' en' o' hb ho hw hb' ho'
theorem Step.congr {m m' : Map} {A A' A'' : AHeap} {W W' : World} (h : Step m A W m' A' W') (hg : ∀ b, A''.get b = A'.get b) (hn : A''.next = A'.next) : Step m A W m' A'' W' :=
  ⟨h.mono, hn ▸ h.next, h.size, h.tape, h.os, h.output, h.frame, h.rng, fun b en o hb ho => by rw [hg] at ho; exact h.wr b en o hb ho, h.loops⟩

/-! ### Loads -/

def arow (A : AHeap) (b : Nat) : Option Row :=
  match A.get b with
  | some (.row r) => if r.st = 0 then none else some r
  | _ => none

theorem arow_some {A : AHeap} {b : Nat} {r : Row} (h : arow A b = some r) : A.get b = some (.row r) ∧ r.st ≠ 0 := by
  unfold arow at h
  split at h
  · rename_i r' hr'
    split at h
    · cases h
    · simp at h; subst h; exact ⟨hr', by assumption⟩
  · cases h

/-- n cells from o on. -/
def acells (A : AHeap) (b o n : Nat) : Option (List Value) :=
  match arow A b with
  | some r => if o + n ≤ r.cells.length then some ((r.cells.drop o).take n) else none
  | none => none

theorem acells_some {A : AHeap} {b o n : Nat} {xs : List Value} (h : acells A b o n = some xs) :
    ∃ r, arow A b = some r ∧ o + n ≤ r.cells.length ∧ xs = (r.cells.drop o).take n := by
  unfold acells at h
  split at h
  · rename_i r hr
    split at h
    · simp at h; exact ⟨r, hr, by assumption, h.symm⟩
    · cases h
  · cases h

theorem cell_of {W : World} {c i : Nat} {cs : Array Value} {el : TypeId} {fr : Nat × Nat} (h : W.heap[c]? = some (.cells cs el fr)) : W.cell? ⟨c, i, none⟩ = cs[i]? := by
  simp [World.cell?, h]

theorem frozen_of {W : World} {c i : Nat} {cs : Array Value} {el : TypeId} {fr : Nat × Nat} (h : W.heap[c]? = some (.cells cs el fr)) : W.frozen? ⟨c, i, none⟩ = decide (fr.1 ≤ i ∧ i < fr.2) := by
  simp [World.frozen?, h]

theorem add_none (c p i : Nat) : (Addr.add ⟨c, p, none⟩ i) = ⟨c, p + i, none⟩ := by
  unfold Addr.add
  split
  · rename_i h; subst h; rfl
  · rfl

theorem run_load {P : Program} {W : World} {a : Addr} {v : Value} (h : W.cell? a = some v) : (load a).run P W = .ok v W := by
  simp [load, Sem.run, h]

theorem run_pure {α : Type} {P : Program} {W : World} (a : α) : (pure a : Sem α).run P W = .ok a W := rfl

theorem run_loadCellsFrom {P : Program} {W : World} {c p : Nat} {cs : Array Value} {el : TypeId} {fr : Nat × Nat} (h : W.heap[c]? = some (.cells cs el fr)) :
    ∀ (n i : Nat) (acc : Array Value), p + i + n ≤ cs.size →
      (loadCellsFrom ⟨c, p, none⟩ i n acc).run P W = .ok (acc ++ ((cs.toList.drop (p + i)).take n).toArray) W := by
  intro n
  induction n with
  | zero => intro i acc _; simp [loadCellsFrom]
  | succ n ih =>
    intro i acc hn
    have hlt : p + i < cs.size := by omega
    have hc : W.cell? ⟨c, p + i, none⟩ = some cs[p + i] := by rw [cell_of h]; exact Array.getElem?_eq_getElem hlt
    rw [loadCellsFrom, Sem.run_bind, add_none, run_load hc]
    simp only [Result.andThen]
    rw [ih (i + 1) _ (by omega)]
    congr 1
    have : (cs.toList.drop (p + i)).take (n + 1) = cs[p + i] :: (cs.toList.drop (p + (i + 1))).take n := by
      rw [List.drop_eq_getElem_cons (by simpa using hlt)]
      simp [Nat.add_assoc]
    rw [this]
    apply Array.ext'
    simp

theorem run_loadCells {P : Program} {W : World} {c p : Nat} {cs : Array Value} {el : TypeId} {fr : Nat × Nat} (h : W.heap[c]? = some (.cells cs el fr)) (n : Nat) (hn : p + n ≤ cs.size) :
    (loadCells ⟨c, p, none⟩ n).run P W = .ok ((cs.toList.drop p).take n).toArray W := by
  have := run_loadCellsFrom (P := P) (p := p) h n 0 #[] (by omega)
  simpa [loadCells] using this

theorem RowIn.lrel {P : Program} {m : Map} {r : Row} {en : Ent} {cs : Array Value} {fr : Nat × Nat} (k : RowIn P m r en cs fr) : LRel m r.cells ((cs.toList.drop en.d).take en.n) := by
  have hs := k.size
  have hf := k.fit
  refine ⟨by simp [k.len]; omega, fun i v v' hv hv' => ?_⟩
  obtain ⟨w, hw, hr⟩ := k.cells i v hv
  rw [List.getElem?_take] at hv'
  split at hv'
  · rw [List.getElem?_drop] at hv'
    have : cs[en.d + i]? = some v' := by simpa using hv'
    rw [hw] at this; cases this; exact hr
  · cases hv'

theorem take_drop_in (l : List Value) (d n o k : Nat) (h : o + k ≤ n) : (((l.drop d).take n).drop o).take k = (l.drop (d + o)).take k := by
  rw [List.drop_take, List.take_take, List.drop_drop]
  congr 1
  omega

/-- A load of n cells. -/
theorem Sim.loadCells {P : Program} {m : Map} {A : AHeap} {W : World} (h : Sim P m A W) {b o n : Nat} {en : Ent} {xs : List Value} (hb : m b = some en) (hx : acells A b o n = some xs) :
    ∃ ys : List Value, (loadCells ⟨en.c, en.d + o, none⟩ n).run P W = .ok ys.toArray W ∧ LRel m xs ys := by
  obtain ⟨r, hr, hn, rfl⟩ := acells_some hx
  obtain ⟨hg, hst⟩ := arow_some hr
  obtain ⟨cs, fr, ⟨te, hW, hte⟩, k⟩ := h.row b en r hb hg hst
  have hlen := k.len
  have hfit := k.fit
  have hsz := k.size
  refine ⟨(cs.toList.drop (en.d + o)).take n, run_loadCells hW n (by omega), ?_⟩
  rw [← take_drop_in cs.toList en.d en.n o n (by omega)]
  exact (k.lrel.drop o).take n

/-- A load of one cell. -/
theorem Sim.load {P : Program} {m : Map} {A : AHeap} {W : World} (h : Sim P m A W) {b o : Nat} {en : Ent} {r : Row} {v : Value} (hb : m b = some en) (hr : arow A b = some r)
    (hv : r.cells[o]? = some v) : ∃ v', W.cell? ⟨en.c, en.d + o, none⟩ = some v' ∧ VRel m v v' := by
  obtain ⟨hg, hst⟩ := arow_some hr
  obtain ⟨cs, fr, ⟨te, hW, hte⟩, k⟩ := h.row b en r hb hg hst
  obtain ⟨v', hv', hrel⟩ := k.cells o v hv
  exact ⟨v', by rw [cell_of hW]; exact hv', hrel⟩

/-! ### A new block -/

theorem get_push {H : Array Obj} {o : Obj} {i : Nat} (h : i < H.size) : (H.push o)[i]? = H[i]? := by
  rw [Array.getElem?_push, if_neg (by omega)]

/-- A new row: all of a new block. -/
theorem Sim.newRow {P : Program} {m : Map} {A : AHeap} {W : World} (h : Sim P m A W) {xs ys zs : List Value} {el : TypeId} {sz : Nat} (x : Bool) (st : Nat) (ch : List Nat) (fz : Bool) (fr : Nat × Nat)
    (hsz : (P.info? el).map (·.size) = some sz) (hl : LRel m xs ys) (hfr : ∀ i, i < ys.length + zs.length → ¬ (fr.1 ≤ i ∧ i < fr.2)) (hfz : fz = false → fr.1 = fr.2) (hx : x = true → zs = []) :
    let en : Ent := ⟨W.heap.size, 0, xs.length, xs.length + zs.length, sz, x⟩
    Sim P (m.ext A.next en) (A.alloc (.row ⟨xs, el, x, st, ch, fz⟩)) (W.alloc (.cells (ys ++ zs).toArray el fr)) ∧
      Step m A W (m.ext A.next en) (A.alloc (.row ⟨xs, el, x, st, ch, fz⟩)) (W.alloc (.cells (ys ++ zs).toArray el fr)) := by
  intro en
  have hnone : m A.next = none := by
    cases hc : m A.next with
    | none => rfl
    | some e => have := h.dom _ _ hc; omega
  have hle : m.le (m.ext A.next en) := Map.le_ext m _ _ hnone
  have hext : ∀ b e, m.ext A.next en b = some e → (b = A.next ∧ e = en) ∨ (b ≠ A.next ∧ m b = some e) := by
    intro b e hb
    unfold Map.ext at hb
    by_cases hc : b = A.next
    · simp [hc] at hb; exact .inl ⟨hc, hb.symm⟩
    · simp [hc] at hb; exact .inr ⟨hc, hb⟩
  have hold : ∀ c, c < W.heap.size → (W.alloc (.cells (ys ++ zs).toArray el fr)).heap[c]? = W.heap[c]? := fun c hc => get_push hc
  have hnew : (W.alloc (.cells (ys ++ zs).toArray el fr)).heap[W.heap.size]? = some (.cells (ys ++ zs).toArray el fr) := by
    show (W.heap.push _)[W.heap.size]? = _
    simp
  refine ⟨⟨?_, ?_, ?_, ?_, ?_⟩, ⟨hle, by simp, by simp, rfl, rfl, rfl, fun c hc _ => hold c hc, ?_, ?_, fun c lo x => ⟨lo, by rw [hold c (lt_of_get x)]; exact x⟩⟩⟩
  · intro b e hb
    rcases hext b e hb with ⟨rfl, rfl⟩ | ⟨_, hm⟩
    · simp
    · have := h.dom b e hm; simp; omega
  · intro b e hb
    rcases hext b e hb with ⟨rfl, rfl⟩ | ⟨_, hm⟩
    · simp [en]
    · have := h.lt b e hm; simp; omega
  · intro b e r hb hr hst
    rw [AHeap.get_alloc] at hr
    rcases hext b e hb with ⟨rfl, rfl⟩ | ⟨hne, hm⟩
    · simp at hr
      subst hr
      refine ⟨(ys ++ zs).toArray, fr, ⟨_, hnew, fun _ => rfl⟩, ⟨rfl, rfl, by simp [en], hsz, by simp [en, hl.1], ?_, ?_, ?_, fun _ hf => .inl (hfz hf), fun e => ⟨rfl, by simp [en, hx e]⟩⟩⟩
      · intro i v hv
        obtain ⟨v', hv', hr'⟩ := hl.get hv
        refine ⟨v', ?_, hr'.mono hle⟩
        have : i < ys.length := by
          rcases Nat.lt_or_ge i ys.length with hlt | hge
          · exact hlt
          · rw [List.getElem?_eq_none hge] at hv'; cases hv'
        simp only [en, Nat.zero_add, List.getElem?_toArray]
        rw [List.getElem?_append_left this]; exact hv'
      · intro _ i _ hi
        refine hfr i ?_
        have := hl.1
        simp only [en] at hi
        split at hi
        · omega
        · omega
      · intro _ _ i _ hi
        refine hfr i ?_
        have := hl.1
        simp only [en] at hi; omega
    · rw [if_neg hne] at hr
      obtain ⟨cs, fr', ⟨te, hW, hte⟩, k⟩ := h.row b e r hm hr hst
      exact ⟨cs, fr', ⟨te, by rw [hold _ (h.lt b e hm)]; exact hW, hte⟩, k.mono hle⟩
  · intro b e l hb hr
    rw [AHeap.get_alloc] at hr
    rcases hext b e hb with ⟨rfl, rfl⟩ | ⟨hne, hm⟩
    · simp at hr
    · rw [if_neg hne] at hr
      obtain ⟨lo, hW, a1, a2, a3, a4, a5, a6⟩ := h.loop b e l hm hr
      exact ⟨lo, by rw [hold _ (h.lt b e hm)]; exact hW, a1, a2, a3, a4, a5, a6.mono hle⟩
  · intro b e o b' e' o' hb ho hw hb' ho' ha hc
    rw [AHeap.get_alloc] at ho ho'
    rcases hext b e hb with ⟨rfl, rfl⟩ | ⟨hne, hm⟩
    · rcases hext b' e' hb' with ⟨rfl, rfl⟩ | ⟨hne', hm'⟩
      · exact .inl rfl
      · have := h.lt b' e' hm'; simp only [en] at hc; omega
    · rcases hext b' e' hb' with ⟨rfl, rfl⟩ | ⟨hne', hm'⟩
      · have := h.lt b e hm; simp only [en] at hc; omega
      · rw [if_neg hne] at ho
        rw [if_neg hne'] at ho'
        exact h.own b e o b' e' o' hm ho hw hm' ho' ha hc
  · intro b e hb hlt
    rcases hext b e hb with ⟨rfl, rfl⟩ | ⟨hne, hm⟩
    · simp only [en] at hlt; omega
    · exact ⟨b, e, hm, rfl⟩
  · intro b e o hb ho hw hlt
    rcases hext b e hb with ⟨rfl, rfl⟩ | ⟨hne, hm⟩
    · simp only [en] at hlt; omega
    · rw [AHeap.get_alloc, if_neg hne] at ho
      exact ⟨b, e, o, hm, ho, hw, rfl⟩
end Go.Sh
