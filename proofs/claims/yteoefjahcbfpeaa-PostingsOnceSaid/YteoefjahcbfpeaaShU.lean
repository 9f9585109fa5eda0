/- Shadow, part 21: rows of data, variables of their own, what a piece of code leaves as it was. -/
import Derived.Test.YteoefjahcbfpeaaShT
namespace Go.Sh
open Go

/-- A row of data: nobody writes into it any more; it may have been grown beyond. -/
def Dat (A : AHeap) (b : Nat) (el : TypeId) (cells : List Value) : Prop := b < A.next ∧ ∃ r : Row, A.get b = some (.row r) ∧ r.x = false ∧ r.st ≠ 0 ∧ r.elem = el ∧ r.cells = cells
/-- A variable of its own. -/
def Box (A : AHeap) (b : Nat) (el : TypeId) (cells : List Value) : Prop := b < A.next ∧ A.get b = some (.row ⟨cells, el, true, 3, [], false⟩)
/-- A row that its owner may grow. -/
def App (A : AHeap) (b : Nat) (el : TypeId) (cells : List Value) : Prop := b < A.next ∧ ∃ ch fz, A.get b = some (.row ⟨cells, el, false, 3, ch, fz⟩)

theorem App.dat {A : AHeap} {b : Nat} {el : TypeId} {cells : List Value} (h : App A b el cells) : Dat A b el cells :=
  let ⟨h1, ch, fz, h2⟩ := h; ⟨h1, _, h2, rfl, by simp, rfl, rfl⟩

/-- What is written stays within W; data stays as it is. -/
structure Fr (W : Nat → Prop) (A A' : AHeap) : Prop where
  next : A.next ≤ A'.next
  same : ∀ b, b < A.next → ¬ W b → A'.get b = A.get b
  dat : ∀ b el cells, Dat A b el cells → Dat A' b el cells

abbrev Ext (A A' : AHeap) : Prop := Fr (fun _ => False) A A'

theorem Fr.refl (W : Nat → Prop) (A : AHeap) : Fr W A A := ⟨Nat.le_refl _, fun _ _ _ => rfl, fun _ _ _ h => h⟩
theorem Fr.trans {W W' : Nat → Prop} {A B C : AHeap} (h : Fr W A B) (k : Fr W' B C) (hw : ∀ b, b < A.next → W' b → W b) : Fr W A C :=
  ⟨Nat.le_trans h.next k.next, fun b hb hn => by rw [k.same b (Nat.lt_of_lt_of_le hb h.next) fun hc => hn (hw b hb hc), h.same b hb hn], fun b el cs hd => k.dat b el cs (h.dat b el cs hd)⟩
theorem Fr.weaken {W W' : Nat → Prop} {A B : AHeap} (h : Fr W A B) (hw : ∀ b, b < A.next → W b → W' b) : Fr W' A B :=
  ⟨h.next, fun b hb hn => h.same b hb fun hc => hn (hw b hb hc), h.dat⟩
theorem Ext.trans {A B C : AHeap} (h : Ext A B) (k : Ext B C) : Ext A C := Fr.trans h k fun _ _ hc => hc
theorem Ext.fr {W : Nat → Prop} {A B : AHeap} (h : Ext A B) : Fr W A B := h.weaken fun _ _ hc => hc.elim
theorem Fr.box {W : Nat → Prop} {A A' : AHeap} (h : Fr W A A') {b : Nat} {el : TypeId} {cells : List Value} (hb : Box A b el cells) (hn : ¬ W b) : Box A' b el cells :=
  ⟨Nat.lt_of_lt_of_le hb.1 h.next, by rw [h.same b hb.1 hn]; exact hb.2⟩
theorem Fr.app {W : Nat → Prop} {A A' : AHeap} (h : Fr W A A') {b : Nat} {el : TypeId} {cells : List Value} (hb : App A b el cells) (hn : ¬ W b) : App A' b el cells :=
  ⟨Nat.lt_of_lt_of_le hb.1 h.next, by rw [h.same b hb.1 hn]; exact hb.2⟩
theorem Fr.loop {W : Nat → Prop} {A A' : AHeap} (h : Fr W A A') {l : Nat} (hl : l < A.next) (hn : ¬ W l) : getLoopA A' l = getLoopA A l := by
  unfold getLoopA; rw [h.same l hl hn]

/-- A heap turned at single blocks: what has to be seen of each. -/
theorem Fr.of {W : Nat → Prop} {A A' : AHeap} (hn : A.next ≤ A'.next) (h : ∀ b, b < A.next → A'.get b = A.get b ∨ (W b ∧ ∀ r : Row, A.get b = some (.row r) → r.x = false → r.st ≠ 0 →
    ∃ r' : Row, A'.get b = some (.row r') ∧ r'.x = false ∧ r'.st ≠ 0 ∧ r'.elem = r.elem ∧ r'.cells = r.cells)) : Fr W A A' := by
  refine ⟨hn, fun b hb hw => (h b hb).resolve_right fun hc => hw hc.1, ?_⟩
  rintro b el cells ⟨hb, r, h1, h2, h3, h4, h5⟩
  refine ⟨Nat.lt_of_lt_of_le hb hn, ?_⟩
  rcases h b hb with h0 | ⟨_, h0⟩
  · exact ⟨r, by rw [h0]; exact h1, h2, h3, h4, h5⟩
  · obtain ⟨r', k1, k2, k3, k4, k5⟩ := h0 r h1 h2 h3
    exact ⟨r', k1, k2, k3, k4.trans h4, k5.trans h5⟩

/-- New blocks alone. -/
theorem Ext.alloc (A : AHeap) (o : AObj) : Ext A (A.alloc o) := by
  refine Fr.of (by simp) fun b hb => .inl ?_
  rw [AHeap.get_alloc, if_neg (by omega)]

theorem Fr.setBox {A : AHeap} {b : Nat} {el : TypeId} {cells : List Value} (hb : Box A b el cells) (o : AObj) : Fr (fun j => j = b) A (A.set b o) := by
  refine Fr.of (by simp) fun j hj => ?_
  rw [AHeap.get_set]
  by_cases hc : j = b
  · refine .inr ⟨hc, fun r hr hx => ?_⟩
    subst hc
    rw [hb.2] at hr
    cases hr
    cases hx
  · exact .inl (if_neg hc)

theorem Fr.setLoop {A : AHeap} {b : Nat} {lo : ALoop} (hb : getLoopA A b = some lo) (o : AObj) : Fr (fun j => j = b) A (A.set b o) := by
  refine Fr.of (by simp) fun j hj => ?_
  rw [AHeap.get_set]
  by_cases hc : j = b
  · refine .inr ⟨hc, fun r hr hx => ?_⟩
    subst hc
    rw [getLoopA_get hb] at hr
    cases hr
  · exact .inl (if_neg hc)

/-! ### Slices -/

/-- A slice without elements, wherever it points: nil, or one whose address is of no use. -/
def Void (v : Value) : Prop := v = .slice none 0 0 ∨ ∃ b o k, v = .slice (some ⟨b, o, some k⟩) 0 0
theorem Void.nil : Void (.slice none 0 0) := .inl rfl
theorem Void.at {v : Value} (h : Void v) : ∃ o, v = .slice o 0 0 := by
  rcases h with h | ⟨b, o, k, h⟩
  · exact ⟨_, h⟩
  · exact ⟨_, h⟩

/-- A slice of so many elements, of sz cells each; xs: their cells. -/
def Elems (A : AHeap) (el sz : Nat) (v : Value) (n : Nat) (cells : List Value) : Prop :=
  cells.length = n * sz ∧ ((Void v ∧ n = 0) ∨ ∃ b, v = .slice (some ⟨b, 0, none⟩) n n ∧ Dat A b el cells)

theorem Elems.dk {A A' : AHeap} (h : ∀ b el cells, Dat A b el cells → Dat A' b el cells) {el sz n : Nat} {v : Value} {cells : List Value} (he : Elems A el sz v n cells) : Elems A' el sz v n cells :=
  ⟨he.1, he.2.imp id fun ⟨b, h1, h2⟩ => ⟨b, h1, h _ _ _ h2⟩⟩
theorem Elems.fr {W : Nat → Prop} {A A' : AHeap} (h : Fr W A A') {el sz n : Nat} {v : Value} {cells : List Value} (he : Elems A el sz v n cells) : Elems A' el sz v n cells := by
  refine ⟨he.1, he.2.imp id ?_⟩
  rintro ⟨b, h1, h2⟩
  exact ⟨b, h1, h.dat _ _ _ h2⟩

theorem Dat.arow {A : AHeap} {b : Nat} {el : TypeId} {cells : List Value} (h : Dat A b el cells) : ∃ r, arow A b = some r ∧ r.cells = cells ∧ r.elem = el ∧ r.x = false := by
  obtain ⟨_, r, h1, h2, h3, h4, h5⟩ := h
  exact ⟨r, by simp [Sh.arow, h1, h3], h5, h4, h2⟩
theorem Box.arow {A : AHeap} {b : Nat} {el : TypeId} {cells : List Value} (h : Box A b el cells) : arow A b = some ⟨cells, el, true, 3, [], false⟩ := by
  simp [Sh.arow, h.2]

/-- A load of one cell out of data. -/
theorem Dat.load {P : Program} {A : AHeap} {b o : Nat} {el t : TypeId} {cells : List Value} (h : Dat A b el cells) {d : TypeDesc} (ht : P.underlying t = some d) (hd : isAggD d = false) {v : Value} (hv : cells[o]? = some v) :
    aLoadVar P A t (.pointer (some ⟨b, o, none⟩)) = some v := by
  obtain ⟨r, h1, h2, _⟩ := h.arow
  simp [aLoadVar, ht, hd, h1, h2, hv]
theorem Box.load {P : Program} {A : AHeap} {b o : Nat} {el t : TypeId} {cells : List Value} (h : Box A b el cells) {d : TypeDesc} (ht : P.underlying t = some d) (hd : isAggD d = false) {v : Value} (hv : cells[o]? = some v) :
    aLoadVar P A t (.pointer (some ⟨b, o, none⟩)) = some v := by
  simp [aLoadVar, ht, hd, h.arow, hv]
theorem acells_of {A : AHeap} {b o n : Nat} {r : Row} (h : arow A b = some r) (hl : o + n ≤ r.cells.length) : acells A b o n = some ((r.cells.drop o).take n) := by
  simp [acells, h, hl]
theorem Dat.loadAgg {P : Program} {A : AHeap} {b o s : Nat} {el t : TypeId} {cells : List Value} (h : Dat A b el cells) {d : TypeDesc} (ht : P.underlying t = some d) (hd : isAggD d = true) (hs : tsize P t = some s)
    (hl : o + s ≤ cells.length) : aLoadVar P A t (.pointer (some ⟨b, o, none⟩)) = some (.agg ((cells.drop o).take s).toArray) := by
  obtain ⟨r, h1, h2, _⟩ := h.arow
  subst h2
  simp [aLoadVar, ht, hd, hs, acells_of h1 hl]
theorem Box.loadAgg {P : Program} {A : AHeap} {b o s : Nat} {el t : TypeId} {cells : List Value} (h : Box A b el cells) {d : TypeDesc} (ht : P.underlying t = some d) (hd : isAggD d = true) (hs : tsize P t = some s)
    (hl : o + s ≤ cells.length) : aLoadVar P A t (.pointer (some ⟨b, o, none⟩)) = some (.agg ((cells.drop o).take s).toArray) := by
  simp [aLoadVar, ht, hd, hs, acells_of h.arow hl]

/-! ### Operations that turn memory -/
section
variable {K : Ctx} {e : Env} {A : AHeap} {Q : Value → AHeap → Prop}

theorem box_new (A : AHeap) (t : TypeId) (cs : List Value) : Ext A (A.alloc (.row ⟨cs, t, true, 3, [], false⟩)) ∧ Box (A.alloc (.row ⟨cs, t, true, 3, [], false⟩)) A.next t cs :=
  ⟨Ext.alloc _ _, by simp, by rw [AHeap.get_alloc, if_pos rfl]⟩

theorem OpW_box_of {t s : Nat} {x : Operand} (hs : tsize K.P t = some s) (hok : okOpd x = true)
    (h : ∀ b A', b = A.next → A'.next = b + 1 → Ext A A' → Box A' b t (opv e x).cells.toList → Q (.pointer (some ⟨b, 0, none⟩)) A') : OpW K (.box t x) e A Q := by
  rw [OpW_box]
  refine ⟨hok, _, by simp only [aNew, hs]; rfl, ?_⟩
  obtain ⟨h1, h2⟩ := box_new A t (opv e x).cells.toList
  exact h _ _ rfl rfl h1 h2

theorem OpW_alloc_of {t s : Nat} {z : Value} (hs : tsize K.P t = some s) (hz : tzero K.P t = some z) (hsim : z.cells.toList.all simple = true)
    (h : ∀ b A', b = A.next → A'.next = b + 1 → Ext A A' → Box A' b t z.cells.toList → Q (.pointer (some ⟨b, 0, none⟩)) A') : OpW K (.alloc t) e A Q := by
  rw [OpW_alloc]
  refine ⟨z, hz, _, by simp only [hsim, if_true, aNew, hs]; rfl, ?_⟩
  obtain ⟨h1, h2⟩ := box_new A t z.cells.toList
  exact h _ _ rfl rfl h1 h2

theorem kill_nil (A : AHeap) : A.kill [] = A := rfl

theorem OpW_store_of {t b o : Nat} {el : TypeId} {cells : List Value} {a x : Operand} (hb : Box A b el cells) (hok : okOpd a = true ∧ okOpd x = true) (ha : opv e a = .pointer (some ⟨b, o, none⟩))
    (hs : tsize K.P t = some (opv e x).cells.size) (hf : o + (opv e x).cells.toList.length ≤ cells.length) (h1 : (opv e x).cells.toList.all one = true)
    (h : ∀ A', A'.next = A.next → Fr (fun j => j = b) A A' → Box A' b el (lputs cells o (opv e x).cells.toList) → Q undef A') : OpW K (.store t a x) e A Q := by
  rw [OpW_store]
  refine ⟨hok, A.set b (.row ⟨lputs cells o (opv e x).cells.toList, el, true, 3, [], false⟩), ?_, ?_⟩
  · simp only [aStoreVar, ha, hs, if_true, aputRow, hb.arow]
    rw [if_pos ⟨trivial, hf, h1⟩]
    rfl
  · refine h _ rfl (Fr.setBox hb _) ⟨hb.1, by rw [AHeap.get_set, if_pos rfl]⟩

theorem OpW_buildSlice_of {t n s : Nat} {el : TypeId} {z : Value} {cs : List Value} {parts : Array (Nat × Operand)} (ht : K.P.underlying t = some (.slice el)) (hs : tsize K.P el = some s) (hz : tzero K.P el = some z)
    (hn : n * s ≤ 2 ^ 24) (hsim : (zeros z (n * s)).all simple = true) (hok : (Op.buildSlice t n parts).operands.toList.all okOpd = true)
    (hf : afill (fun i => some (i * s, s)) (zeros z (n * s)) (parts.toList.map fun (i, x) => (i, opv e x)) = some cs)
    (h : ∀ b A', b = A.next → A'.next = b + 1 → Ext A A' → Box A' b el cs → Q (.slice (some ⟨b, 0, none⟩) n n) A') : OpW K (.buildSlice t n parts) e A Q := by
  rw [OpW_buildSlice]
  refine ⟨hok, _, by simp only [aBuildSlice, ht, hs, hz, hn, hsim, and_self, if_true, hf]; rfl, ?_⟩
  obtain ⟨h1, h2⟩ := box_new A el cs
  exact h _ _ rfl rfl h1 h2

/-- A slice that its owner grows: nothing yet, or a row of his own. -/
def Acc (A : AHeap) (el sz : Nat) (v : Value) (n : Nat) (cells : List Value) : Prop :=
  cells.length = n * sz ∧ ((v = .slice none 0 0 ∧ n = 0) ∨ ∃ b, v = .slice (some ⟨b, 0, none⟩) n n ∧ App A b el cells)

theorem Acc.elems {A : AHeap} {el sz n : Nat} {v : Value} {cells : List Value} (h : Acc A el sz v n cells) : Elems A el sz v n cells :=
  ⟨h.1, h.2.imp (fun e => ⟨.inl e.1, e.2⟩) fun ⟨b, h1, h2⟩ => ⟨b, h1, h2.dat⟩⟩

/-- The block of a slice. -/
def blockOf : Value → Nat → Prop
  | .slice (some a) _ _, b => a.block = b
  | _, _ => False

theorem Acc.fr {W : Nat → Prop} {A A' : AHeap} (h : Fr W A A') {el sz n : Nat} {v : Value} {cells : List Value} (ha : Acc A el sz v n cells) (hw : ∀ b, blockOf v b → ¬ W b) : Acc A' el sz v n cells :=
  ⟨ha.1, ha.2.imp id fun ⟨b, h1, h2⟩ => ⟨b, h1, h.app h2 (hw b (by rw [h1]; rfl))⟩⟩

theorem OpW_append_of {t tx el sz by' n k : Nat} {s x : Operand} {cells new : List Value} {z : Value} (hok : okOpd s = true ∧ okOpd x = true) (ht : K.P.underlying t = some (.slice el))
    (hx : srcKind (K.P.underlying tx) = true) (hsz : tsize K.P el = some sz) (hby : tbytes K.P el = some by') (hz : tzero K.P el = some z) (hsrc : aSrc A sz (opv e x) = some (k, new)) (hnew : new.length = k * sz ∧ new.all one = true)
    (hk : 0 < k) (hc : 0 < sz ∧ z.cells.size = sz ∧ 0 < by' ∧ (n + k) * by' ≤ 140737488355328) (ha : Acc A el sz (opv e s) n cells)
    (h : ∀ b A', b = A.next → A'.next = b + 1 → Fr (blockOf (opv e s)) A A' → Acc A' el sz (.slice (some ⟨b, 0, none⟩) (n + k) (n + k)) (n + k) (cells ++ new) → Q (.slice (some ⟨b, 0, none⟩) (n + k) (n + k)) A') :
    OpW K (.call { callee := .builtin .append, args := #[s, x], argTypes := #[t, tx] }) e A Q := by
  rw [OpW_append]
  refine ⟨hok, ?_⟩
  obtain ⟨hlen, hs⟩ := ha
  have hlen' : (cells ++ new).length = (n + k) * sz := by rw [List.length_append, hlen, hnew.1, Nat.add_mul]
  rcases hs with ⟨hs, rfl⟩ | ⟨b, hs, hb⟩
  · have hcs : cells = [] := List.eq_nil_of_length_eq_zero (by omega)
    subst hcs
    refine ⟨(.slice (some ⟨A.next, 0, none⟩) (0 + k) (0 + k), A.alloc (.row ⟨new, el, false, 3, [], false⟩)), ?_, ?_⟩
    · rw [hs]
      simp only [aAppend, hx, if_true, ht, hsz, hby, hz, hsrc]
      rw [if_pos hnew, if_neg (by omega), if_pos hc]
      rfl
    · refine h _ _ rfl rfl (Ext.alloc _ _).fr ⟨hlen', .inr ⟨_, rfl, by simp, [], false, by rw [AHeap.get_alloc, if_pos rfl]; rfl⟩⟩
  · obtain ⟨hlt, ch, fz, hg⟩ := hb
    have hrow : arow A b = some ⟨cells, el, false, 3, ch, fz⟩ := by simp [Sh.arow, hg]
    refine ⟨(.slice (some ⟨A.next, 0, none⟩) (n + k) (n + k), (A.set b (.row ⟨cells, el, false, 1, ch, fz⟩)).alloc (.row ⟨cells ++ new, el, false, 3, b :: ch, fz⟩)), ?_, ?_⟩
    · rw [hs]
      simp only [aAppend, hx, if_true, ht, hsz, hby, hz, hsrc]
      rw [if_pos hnew, if_neg (by omega), if_pos hc]
      simp [aAppOut, hrow, hlen]
    · refine h _ _ rfl rfl ?_ ⟨hlen', .inr ⟨_, rfl, by simp, b :: ch, fz, by rw [AHeap.get_alloc, AHeap.next_set, if_pos rfl]⟩⟩
      refine Fr.of (by simp) fun j hj => ?_
      rw [AHeap.get_alloc, AHeap.next_set, if_neg (by omega), AHeap.get_set]
      by_cases hjb : j = b
      · subst hjb
        refine .inr ⟨by rw [hs]; rfl, fun r hr _ _ => ?_⟩
        rw [hg] at hr
        cases hr
        exact ⟨_, if_pos rfl, rfl, by simp, rfl, rfl⟩
      · exact .inl (if_neg hjb)
end
end Go.Sh
