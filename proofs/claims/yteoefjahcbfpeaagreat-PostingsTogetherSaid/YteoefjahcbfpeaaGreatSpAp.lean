/- What single functions do: lists of one's own are written over, and grown. -/
import Derived.Test.YteoefjahcbfpeaaGreatSpLt
import Derived.Test.YteoefjahcbfpeaaGreatSkC
namespace Go.Sh
open Go Go.Proofs
set_option linter.unusedSimpArgs false
set_option linter.unusedVariables false
set_option maxRecDepth 4000
set_option maxHeartbeats 2000000

/-- What is old stays. -/
def Old (A0 A : AHeap) : Prop := ∀ c, c < A0.next → A.get c = A0.get c
theorem Ext.old {A0 A : AHeap} (h : Ext A0 A) : Old A0 A := fun c hc => h.same c hc fun h => h
theorem Old.trans {A0 A B : AHeap} (h : Old A0 A) (hn : A0.next ≤ A.next) (k : ∀ c, c < A0.next → B.get c = A.get c) : Old A0 B := fun c hc => (k c hc).trans (h c hc)
theorem ChOK.newO {A0 A : AHeap} (h : ChOK A0 A) (hE : Old A0 A) {b : Nat} {r : Row} (hb : A.get b = some (.row r)) (hb0 : A0.next ≤ b) : ∀ c ∈ r.chain, A0.next ≤ c := by
  intro c hc
  rcases Nat.lt_or_ge c A0.next with h1 | h1
  · obtain ⟨c', k1, ⟨r0, k2, k3⟩, k4⟩ := h.fresh b r hb hb0 c hc h1
    exact absurd ⟨r0, by rw [hE c' k1]; exact k2, k3⟩ k4
  · exact h1

/-- Rows that may be written stay, but for W's. -/
def Kp (W : Nat → Prop) (A A' : AHeap) : Prop := ∀ c r, ¬ W c → A.get c = some (.row r) → 2 ≤ r.st → A'.get c = some (.row r)
theorem Kp.app {W : Nat → Prop} {A A' : AHeap} (h : Kp W A A') (hn : A.next ≤ A'.next) {b : Nat} {el : TypeId} {cells : List Value} (ha : App A b el cells) (hw : ¬ W b) : App A' b el cells := by
  obtain ⟨h1, ch, fz, h2⟩ := ha
  exact ⟨Nat.lt_of_lt_of_le h1 hn, ch, fz, h b _ hw h2 (by simp)⟩
theorem Kp.box {W : Nat → Prop} {A A' : AHeap} (h : Kp W A A') (hn : A.next ≤ A'.next) {b : Nat} {el : TypeId} {cells : List Value} (ha : Box A b el cells) (hw : ¬ W b) : Box A' b el cells :=
  ⟨Nat.lt_of_lt_of_le ha.1 hn, h b _ hw ha.2 (by simp)⟩
theorem Kp.trans {W : Nat → Prop} {A B C : AHeap} (h : Kp W A B) (k : Kp W B C) : Kp W A C := fun c r hw hc hs => k c r hw (h c r hw hc hs) hs
theorem Kp.refl (W : Nat → Prop) (A : AHeap) : Kp W A A := fun _ _ _ h _ => h

/-- A store into a row that its owner may grow. -/
theorem OpW_store_app {K : Ctx} {e : Env} {A : AHeap} {Q : Value → AHeap → Prop} {t b o : Nat} {r : Row} {a x : Operand} (hg : A.get b = some (.row r)) (hst : r.st = 3) (hok : okOpd a = true ∧ okOpd x = true) (ha : opv e a = .pointer (some ⟨b, o, none⟩))
    (hs : tsize K.P t = some (opv e x).cells.size) (hf : o + (opv e x).cells.toList.length ≤ r.cells.length) (h1 : (opv e x).cells.toList.all one = true)
    (h : ∀ A', A'.next = A.next → aputRow A b o (opv e x).cells.toList = some A' → A'.get b = some (.row { r with cells := lputs r.cells o (opv e x).cells.toList, chain := [] }) → (∀ c, c ≠ b → c ∉ r.chain → A'.get c = A.get c) → Q undef A') : OpW K (.store t a x) e A Q := by
  rw [OpW_store]
  refine ⟨hok, ?_⟩
  have har : arow A b = some r := by unfold arow; rw [hg]; simp [hst]
  have hput : aputRow A b o (opv e x).cells.toList = some ((A.kill r.chain).set b (.row { r with cells := lputs r.cells o (opv e x).cells.toList, chain := [] })) := by
    unfold aputRow
    rw [har]
    simp only
    rw [if_pos ⟨hst, hf, h1⟩]
  refine Out_of (v := _) (by rw [ha]; simp only [aStoreVar]; rw [if_pos hs]; exact hput) ?_
  refine h _ (by rw [AHeap.next_set, AHeap.next_kill]) hput ?_ fun c hc hm => ?_
  · rw [get_put, if_pos rfl]
  · rw [get_put, if_neg hc, if_neg hm]

/-- append where there is room. -/
theorem OpW_append_in {K : Ctx} {e : Env} {A : AHeap} {Q : Value → AHeap → Prop} {t tx el sz by' n c k : Nat} {s x : Operand} {b : Nat} {r : Row} {new : List Value} {z : Value} (hok : okOpd s = true ∧ okOpd x = true) (ht : K.P.underlying t = some (.slice el))
    (hx : srcKind (K.P.underlying tx) = true) (hsz : tsize K.P el = some sz) (hby : tbytes K.P el = some by') (hz : tzero K.P el = some z) (hsrc : aSrc A sz (opv e x) = some (k, new)) (hnew : new.length = k * sz ∧ new.all one = true)
    (hs : opv e s = .slice (some ⟨b, 0, none⟩) n c) (hg : A.get b = some (.row r)) (hst : r.st = 3) (hroom : n + k ≤ c) (hlen : r.cells.length = c * sz)
    (h : ∀ A', A'.next = A.next → A'.get b = some (.row { r with cells := lputs r.cells (n * sz) new, chain := [] }) → (∀ j, j ≠ b → j ∉ r.chain → A'.get j = A.get j) → Q (.slice (some ⟨b, 0, none⟩) (n + k) c) A') :
    OpW K (.call { callee := .builtin .append, args := #[s, x], argTypes := #[t, tx] }) e A Q := by
  rw [OpW_append]
  refine ⟨hok, ?_⟩
  have har : arow A b = some r := by unfold arow; rw [hg]; simp [hst]
  have hfit : n * sz + new.length ≤ r.cells.length := by
    rw [hnew.1, hlen, ← Nat.add_mul]
    exact Nat.mul_le_mul_right _ hroom
  have hput : aputRow A b (n * sz) new = some ((A.kill r.chain).set b (.row { r with cells := lputs r.cells (n * sz) new, chain := [] })) := by
    unfold aputRow
    rw [har]
    simp only
    rw [if_pos ⟨hst, hfit, hnew.2⟩]
  refine Out_of (v := (.slice (some ⟨b, 0, none⟩) (n + k) c, (A.kill r.chain).set b (.row { r with cells := lputs r.cells (n * sz) new, chain := [] }))) (by
    rw [hs]
    simp only [aAppend,hx,ht,hsz,hby,hz,hsrc,if_true]
    rw [if_pos hnew, if_pos hroom]
    simp only [aAppIn,Nat.zero_add,hput]) ?_
  refine h _ (by rw [AHeap.next_set, AHeap.next_kill]) ?_ fun j hj hm => ?_
  · rw [get_put, if_pos rfl]
  · rw [get_put, if_neg hj, if_neg hm]

/-- Marks at the elements' heads. -/
def Mk (sz : Nat) (mk : Nat → Int) (cells : List Value) (m : Nat) : Prop := ∀ i, i < m → cells[i * sz]? = some (.int .i64 (mk i))

/-- A slice of one's own, with room to spare perhaps. -/
def OwnS (A : AHeap) (el : TypeId) (sz : Nat) (v : Value) (n c : Nat) : Prop :=
  n ≤ c ∧ ((v = .slice none 0 0 ∧ c = 0) ∨ ∃ b r, v = .slice (some ⟨b, 0, none⟩) n c ∧ b < A.next ∧ A.get b = some (.row r) ∧ r.elem = el ∧ r.x = false ∧ r.st = 3 ∧ r.cells.length = c * sz)

theorem OwnS.slice {A : AHeap} {el : TypeId} {sz n c : Nat} {v : Value} (h : OwnS A el sz v n c) : ∃ o, v = .slice o n c := by
  rcases h.2 with ⟨h1, h2⟩ | ⟨b, r, h1, _⟩
  · have := h.1
    exact ⟨none, by rw [h1, show n = 0 by omega, h2]⟩
  · exact ⟨_, h1⟩

/-- Lists that are written over: how far. -/
structure Ap (A0 A : AHeap) (el : TypeId) (sz : Nat) (vs : List Value) (n c : Nat → Nat) (mk : Nat → Nat → Int) (H : AHeap) (cnt : Nat → Nat) : Prop where
  next : H.next = A.next
  ch : ChOK A0 H
  old : Old A0 H
  kp : Kp (fun b => ∃ u ∈ vs, blockOf u b) A H
  own : ∀ j (h : j < vs.length), OwnS H el sz vs[j] (n j) (c j)
  mark : ∀ j (h : j < vs.length) b r, blockOf vs[j] b → H.get b = some (.row r) → Mk sz (mk j) r.cells (cnt j)

theorem lputs_at (cells : List Value) (p : Nat) (vals : List Value) (hl : p + vals.length ≤ cells.length) (q : Nat) : (lputs cells p vals)[q]? = if p ≤ q ∧ q < p + vals.length then vals[q - p]? else cells[q]? := lputs_get vals cells p q hl

theorem Ap.store {A0 A : AHeap} {el : TypeId} {sz : Nat} {vs : List Value} {n c : Nat → Nat} {mk : Nat → Nat → Int} {H H' : AHeap} {cnt : Nat → Nat} (h : Ap A0 A el sz vs n c mk H cnt) (hd : Dis vs) (hA0 : A0.next ≤ A.next) {k : Nat} (hk : k < vs.length) {b : Nat} {r : Row}
    (hb : blockOf vs[k] b) (hb0 : A0.next ≤ b) (hg : H.get b = some (.row r)) (hst : r.st = 3) (hcl : r.cells.length = c k * sz) (hi : cnt k < n k) (hnc : n k ≤ c k) {vals : List Value} (hv : vals.length = sz) (hv0 : 0 < sz) (hvm : vals[0]? = some (.int .i64 (mk k (cnt k)))) (hput : aputRow H b (cnt k * sz) vals = some H')
    (hnx : H'.next = H.next) (hg' : H'.get b = some (.row { r with cells := lputs r.cells (cnt k * sz) vals, chain := [] })) (ho : ∀ x, x ≠ b → x ∉ r.chain → H'.get x = H.get x) : Ap A0 A el sz vs n c mk H' (fun j => if j = k then cnt k + 1 else cnt j) := by
  have hfit : cnt k * sz + vals.length ≤ r.cells.length := by
    rw [hv, hcl, ← Nat.succ_mul]
    exact Nat.mul_le_mul_right _ (by omega)
  have hfree : ∀ x r', H.get x = some (.row r') → 2 ≤ r'.st → x ∉ r.chain := fun x r' hx hs => h.ch.free hg hx hs
  have hchn := h.ch.newO h.old hg hb0
  refine ⟨hnx.trans h.next, h.ch.put hput, fun x hx => ?_, fun x r' hw hx hs => ?_, fun j hj => ?_, fun j hj b' r' hb' hg2 => ?_⟩
  · rw [ho x (by omega) fun hm => by have := hchn x hm; omega]
    exact h.old x hx
  · have h1 := h.kp x r' hw hx hs
    rw [ho x (fun e => hw ⟨vs[k], List.getElem_mem hk, by rw [e]; exact hb⟩) (hfree x r' h1 hs)]
    exact h1
  · obtain ⟨h1, h2⟩ := h.own j hj
    refine ⟨h1, ?_⟩
    rcases h2 with h2 | ⟨b', r', g1, g2, g3, g4, g5, g6, g7⟩
    · exact .inl h2
    · refine .inr ?_
      by_cases hbb : b' = b
      · subst hbb
        rw [hg] at g3
        cases g3
        exact ⟨b', _, g1, by omega, hg', g4, g5, g6, by rw [lputs_length]; exact g7⟩
      · exact ⟨b', r', g1, by omega, by rw [ho b' hbb (hfree b' r' g3 (by omega))]; exact g3, g4, g5, g6, g7⟩
  · by_cases hjk : j = k
    · subst hjk
      have hbb : b' = b := by
        rcases (h.own j hj).2 with ⟨h2, _⟩ | ⟨b2, r2, g1, _⟩
        · rw [h2] at hb; exact hb.elim
        · rw [g1] at hb hb'; cases hb; cases hb'; rfl
      subst hbb
      rw [hg'] at hg2
      cases hg2
      simp only [if_true]
      intro i hi'
      rw [lputs_at _ _ _ hfit]
      by_cases hic : i = cnt j
      · subst hic
        rw [if_pos (by omega), Nat.sub_self]
        exact hvm
      · have hlt : i < cnt j := by omega
        have : i * sz + sz ≤ cnt j * sz := by rw [← Nat.succ_mul]; exact Nat.mul_le_mul_right _ hlt
        rw [if_neg (by omega)]
        exact h.mark j hj b' r hb hg i hlt
    · rw [if_neg hjk]
      have hbb : b' ≠ b := fun e => by subst e; exact hd.ne hj hk hjk b' hb' hb
      rcases (h.own j hj).2 with ⟨h2, _⟩ | ⟨b2, r2, g1, g2, g3, _, _, g6, _⟩
      · rw [h2] at hb'; exact hb'.elim
      · have : b2 = b' := by rw [g1] at hb'; exact hb'
        subst this
        rw [ho b2 hbb (hfree b2 r2 g3 (by omega))] at hg2
        exact h.mark j hj b2 r' hb' hg2

/-- What a list's turn may turn: its block, and what that has grown out of. -/
def Tn (H1 : AHeap) (u : Value) (x : Nat) : Prop := ∃ b, blockOf u b ∧ (x = b ∨ ∃ r, H1.get b = some (.row r) ∧ x ∈ r.chain)

/-- Lists that are grown: how far. -/
structure Ap2 (H1 : AHeap) (el : TypeId) (sz : Nat) (tg : TypeId) (vs : List Value) (n : Nat → Nat) (mk : Nat → Nat → Int) (H : AHeap) (k : Nat) (gv : Value) (gs : List Value) : Prop where
  next : H1.next ≤ H.next
  le : k ≤ vs.length
  len : gs.length = k
  acc : Acc H tg 1 gv k gs
  gb : ∀ b, blockOf gv b → H1.next ≤ b
  frame : ∀ x, x < H1.next → (∀ j (h : j < vs.length), j < k → ¬ Tn H1 vs[j] x) → H.get x = H1.get x
  done : ∀ j (h : j < gs.length) (h' : j < vs.length), (∃ b cells, gs[j] = .slice (some ⟨b, 0, none⟩) (n j + 64) (n j + 64) ∧ H1.next ≤ b ∧ ¬ blockOf gv b ∧ App H b el cells ∧ Mk sz (mk j) cells (n j + 64)) ∧
    ∀ b, blockOf vs[j] b → ∃ r, H.get b = some (.row r) ∧ (r.st ≠ 0 ∧ r.x = false ∧ r.elem = el) ∧ Mk sz (mk j) r.cells (n j)

/-- One list that is being grown. -/
structure Ap3 (H1 Hs : AHeap) (el : TypeId) (sz : Nat) (u : Value) (n c : Nat) (mk : Nat → Int) (H : AHeap) (j : Nat) (g : Value) : Prop where
  next : Hs.next ≤ H.next
  ub : ∀ b, blockOf u b → b < Hs.next
  frame : ∀ x, x < Hs.next → ¬ Tn H1 u x → H.get x = Hs.get x
  g : (∃ b r, u = .slice (some ⟨b, 0, none⟩) n c ∧ g = .slice (some ⟨b, 0, none⟩) (n + j) c ∧ n + j ≤ c ∧ b < H.next ∧ H.get b = some (.row r) ∧ r.elem = el ∧ r.x = false ∧ r.st = 3 ∧ r.cells.length = c * sz ∧ Mk sz mk r.cells (n + j) ∧ ∀ x ∈ r.chain, Tn H1 u x) ∨
    (0 < n + j ∧ (∃ b cells, g = .slice (some ⟨b, 0, none⟩) (n + j) (n + j) ∧ Hs.next ≤ b ∧ App H b el cells ∧ cells.length = (n + j) * sz ∧ Mk sz mk cells (n + j)) ∧ ∀ b, blockOf u b → ∃ r, H.get b = some (.row r) ∧ (r.st ≠ 0 ∧ r.x = false ∧ r.elem = el) ∧ Mk sz mk r.cells n) ∨
    (u = .slice none 0 0 ∧ g = .slice none 0 0 ∧ n = 0 ∧ j = 0)

theorem Ap3.slice {H1 Hs : AHeap} {el : TypeId} {sz : Nat} {u : Value} {n c : Nat} {mk : Nat → Int} {H : AHeap} {j : Nat} {g : Value} (h : Ap3 H1 Hs el sz u n c mk H j g) : ∃ o cap, g = .slice o (n + j) cap := by
  rcases h.g with ⟨b, r, _, h2, _⟩ | ⟨_, ⟨b, cells, h2, _⟩, _⟩ | ⟨_, h2, h3, h4⟩
  · exact ⟨_, _, h2⟩
  · exact ⟨_, _, h2⟩
  · exact ⟨none, 0, by rw [h2, h3, h4]⟩

theorem Mk.snoc {sz : Nat} {mk : Nat → Int} {cells : List Value} {m : Nat} (h : Mk sz mk cells m) (hl : cells.length = m * sz) {vals : List Value} (hv0 : 0 < sz) (hvm : vals[0]? = some (.int .i64 (mk m))) : Mk sz mk (cells ++ vals) (m + 1) := by
  intro i hi
  by_cases him : i = m
  · subst him
    rw [List.getElem?_append_right (by omega), hl, Nat.sub_self]
    exact hvm
  · have hlt : i < m := by omega
    have : i * sz + sz ≤ m * sz := by rw [← Nat.succ_mul]; exact Nat.mul_le_mul_right _ hlt
    rw [List.getElem?_append_left (by omega)]
    exact h i hlt

/-- A mark more is appended. -/
theorem Ap3.append {K : Ctx} {e : Env} {Q : Value → AHeap → Prop} {t tx el sz by' : Nat} {s x : Operand} {z : Value} (ht : K.P.underlying t = some (.slice el)) (hx : srcKind (K.P.underlying tx) = true) (hsz : tsize K.P el = some sz) (hby : tbytes K.P el = some by') (hz : tzero K.P el = some z)
    (hok : okOpd s = true ∧ okOpd x = true) {H1 Hs H G : AHeap} {u g : Value} {n c j : Nat} {mk : Nat → Int} (h : Ap3 H1 Hs el sz u n c mk H j g) (hG : Ext H G) (hGn : H.next < G.next) (hs : opv e s = g) {new : List Value} (hsrc : aSrc G sz (opv e x) = some (1, new)) (hnew : new.length = sz ∧ new.all one = true)
    (h0 : 0 < sz ∧ z.cells.size = sz ∧ 0 < by' ∧ (n + j + 1) * by' ≤ 140737488355328) (hvm : new[0]? = some (.int .i64 (mk (n + j)))) (hq : ∀ g' H', Ap3 H1 Hs el sz u n c mk H' (j + 1) g' → Q g' H') :
    OpW K (.call { callee := .builtin .append, args := #[s, x], argTypes := #[t, tx] }) e G Q := by
  have hGnx := hG.next
  have hn := h.next
  have hGf : ∀ x, x < Hs.next → ¬ Tn H1 u x → G.get x = Hs.get x := fun x hx ht => by rw [hG.same x (by omega) fun h => h]; exact h.frame x hx ht
  rcases h.g with ⟨b, r, hu, hg, hle, hbl, hgb, hel, hxf, hst, hcl, hmk, hch⟩ | ⟨hpos, ⟨b, cells, hg, hb0, hA, hcl, hmk⟩, hrd⟩ | ⟨hu, hg, hn0, hj0⟩
  · subst hg
    have hgG : G.get b = some (.row r) := by rw [hG.same b hbl fun h => h]; exact hgb
    by_cases hroom : n + j + 1 ≤ c
    · refine OpW_append_in hok ht hx hsz hby hz hsrc (by rw [Nat.one_mul]; exact hnew) hs hgG hst hroom hcl fun A' hA1 hA2 hA3 => ?_
      have hfit : (n + j) * sz + new.length ≤ r.cells.length := by
        rw [hnew.1, hcl, ← Nat.succ_mul]
        exact Nat.mul_le_mul_right _ hroom
      refine hq _ _ ⟨by omega, h.ub, fun x hx ht => ?_, .inl ⟨b, _, hu, rfl, hroom, by omega, hA2, hel, hxf, hst, by rw [lputs_length]; exact hcl, ?_, fun x hx => by cases hx⟩⟩
      · rw [hA3 x (fun e => ht ⟨b, by rw [hu]; rfl, .inl e⟩) fun hm => ht (hch x hm)]
        exact hGf x hx ht
      · intro i hi
        rw [lputs_at _ _ _ hfit]
        by_cases hic : i = n + j
        · subst hic
          rw [if_pos (by omega), Nat.sub_self]
          exact hvm
        · have hlt : i < n + j := by omega
          have : i * sz + sz ≤ (n + j) * sz := by rw [← Nat.succ_mul]; exact Nat.mul_le_mul_right _ hlt
          rw [if_neg (by omega)]
          exact hmk i hlt
    · have hec : n + j = c := by omega
      have hAcc : Acc G el sz (.slice (some ⟨b, 0, none⟩) (n + j) c) (n + j) r.cells := by
        refine ⟨by rw [hec]; exact hcl, .inr ⟨b, by rw [hec], Nat.lt_of_lt_of_le hbl hGnx, r.chain, r.fz, ?_⟩⟩
        rw [hgG]
        obtain ⟨rc, re, rx, rs, rch, rf⟩ := r
        simp only at hel hxf hst
        subst hel; subst hxf; subst hst
        rfl
      refine OpW_append_of (n := n + j) (k := 1) hok ht hx hsz hby hz hsrc (by rw [Nat.one_mul]; exact hnew) (by omega) h0 (by rw [hs]; exact hAcc) fun b' A' hb' hm hF hA' => ?_
      rw [hs] at hF
      rcases hA'.2 with ⟨_, h1⟩ | ⟨b2, h1, hApp⟩
      · omega
      · cases h1
        refine hq _ _ ⟨by omega, h.ub, fun x hx ht => ?_, .inr (.inl ⟨by omega, ⟨_, _, rfl, by omega, hApp, hA'.1, ?_⟩, fun b3 hb3 => ?_⟩)⟩
        · rw [hF.same x (by omega) fun hc => ht ⟨b, by rw [hu]; rfl, .inl (by simpa [blockOf] using hc.symm)⟩]
          exact hGf x hx ht
        · exact hmk.snoc (by rw [hcl, hec]) h0.1 hvm
        · rw [hu] at hb3
          cases hb3
          have hdat : Dat G b el r.cells := ⟨Nat.lt_of_lt_of_le hbl hGnx, r, hgG, hxf, by omega, hel, rfl⟩
          obtain ⟨_, r2, k1, k2, k3, k4, k5⟩ := hF.dat _ _ _ hdat
          exact ⟨r2, k1, ⟨k3, k2, k4⟩, by rw [k5]; exact fun i hi => hmk i (by omega)⟩
  · subst hg
    have hAG := hG.app hA fun h => h
    have hAcc : Acc G el sz (.slice (some ⟨b, 0, none⟩) (n + j) (n + j)) (n + j) cells := ⟨hcl, .inr ⟨b, rfl, hAG⟩⟩
    refine OpW_append_of (n := n + j) (k := 1) hok ht hx hsz hby hz hsrc (by rw [Nat.one_mul]; exact hnew) (by omega) h0 (by rw [hs]; exact hAcc) fun b' A' hb' hm hF hA' => ?_
    rw [hs] at hF
    rcases hA'.2 with ⟨_, h1⟩ | ⟨b2, h1, hApp⟩
    · omega
    · cases h1
      have hbA := hA.1
      refine hq _ _ ⟨by omega, h.ub, fun x hx ht => ?_, .inr (.inl ⟨by omega, ⟨_, _, rfl, by omega, hApp, hA'.1, hmk.snoc hcl h0.1 hvm⟩, fun b3 hb3 => ?_⟩)⟩
      · rw [hF.same x (by omega) fun hc => by simp only [blockOf] at hc; omega]
        exact hGf x hx ht
      · obtain ⟨r, k1, k2, k3⟩ := hrd b3 hb3
        have hlt := h.ub b3 hb3
        refine ⟨r, ?_, k2, k3⟩
        rw [hF.same b3 (by omega) fun hc => by simp only [blockOf] at hc; omega, hG.same b3 (by omega) fun h => h]
        exact k1
  · subst hg
    have hAcc : Acc G el sz (.slice none 0 0) (n + j) [] := by rw [hn0, hj0]; exact ⟨by simp, .inl ⟨rfl, rfl⟩⟩
    refine OpW_append_of (n := n + j) (k := 1) hok ht hx hsz hby hz hsrc (by rw [Nat.one_mul]; exact hnew) (by omega) h0 (by rw [hs]; exact hAcc) fun b' A' hb' hm hF hA' => ?_
    rw [hs] at hF
    rcases hA'.2 with ⟨_, h1⟩ | ⟨b2, h1, hApp⟩
    · omega
    · cases h1
      refine hq _ _ ⟨by omega, h.ub, fun x hx ht => ?_, .inr (.inl ⟨by omega, ⟨_, _, rfl, by omega, hApp, hA'.1, ?_⟩, fun b3 hb3 => by rw [hu] at hb3; exact hb3.elim⟩)⟩
      · rw [hF.same x (by omega) fun hc => hc]
        exact hGf x hx ht
      · exact Mk.snoc (m := n + j) (cells := []) (fun i hi => absurd hi (by omega)) (by rw [hn0, hj0]; simp) h0.1 hvm

theorem Kp.acc {W : Nat → Prop} {A A' : AHeap} (h : Kp W A A') (hn : A.next ≤ A'.next) {el sz n : Nat} {v : Value} {cells : List Value} (ha : Acc A el sz v n cells) (hw : ∀ b, blockOf v b → ¬ W b) : Acc A' el sz v n cells := by
  refine ⟨ha.1, ?_⟩
  rcases ha.2 with h1 | ⟨b, h1, h2⟩
  · exact .inl h1
  · exact .inr ⟨b, h1, h.app hn h2 (hw b (by rw [h1]; rfl))⟩
theorem Acc.ld {P : Program} {A : AHeap} {el n : Nat} {o : Option Addr} {m : Nat} {cells : List Value} (h : Acc A el 1 (.slice o m m) n cells) {i t : Nat} (hi : i < cells.length) {d : TypeDesc} (ht : P.underlying t = some d) (hd : isAggD d = false) :
    ∃ b, o = some ⟨b, 0, none⟩ ∧ aLoadVar P A t (.pointer (some ⟨b, i, none⟩)) = some cells[i] := by
  rcases h.2 with ⟨_, h1⟩ | ⟨b, h1, h2⟩
  · have := h.1
    omega
  · cases h1
    exact ⟨b, rfl, h2.dat.load ht hd (by simp [hi])⟩

/-- What is handed to be looked at: lists of one's own. -/
structure ApIn (A0 A : AHeap) (el tg sz : Nat) (lsv : Value) (vs : List Value) (n c : Nat → Nat) : Prop where
  acc : Acc A tg 1 lsv vs.length vs
  own : ∀ j (h : j < vs.length), OwnS A el sz vs[j] (n j) (c j)
  blk : ∀ j (h : j < vs.length) b, blockOf vs[j] b → A0.next ≤ b ∧ ¬ blockOf lsv b
  dis : Dis vs
  ch : ChOK A0 A
  old : Old A0 A
  le : A0.next ≤ A.next
  len : vs.length ≤ 100000000
  cap : ∀ j, j < vs.length → c j ≤ n j + 16 ∧ n j ≤ 1000000000

variable {A0 A : AHeap} {el tg sz : Nat} {lsv : Value} {vs : List Value} {n c : Nat → Nat} {mk : Nat → Nat → Int}
theorem ApIn.notin (h : ApIn A0 A el tg sz lsv vs n c) : ∀ b, blockOf lsv b → ¬ ∃ u ∈ vs, blockOf u b := by
  rintro b hb ⟨u, hu, hc⟩
  obtain ⟨j, hj, rfl⟩ := List.getElem_of_mem hu
  exact (h.blk j hj b hc).2 hb
theorem ApIn.init (h : ApIn A0 A el tg sz lsv vs n c) : Ap A0 A el sz vs n c mk A (fun _ => 0) :=
  ⟨rfl, h.ch, h.old, Kp.refl _ _, h.own, fun j _ b r _ _ i hi => by omega⟩
theorem Ap.cong {H : AHeap} {cnt cnt' : Nat → Nat} (h : Ap A0 A el sz vs n c mk H cnt) (hc : ∀ j, j < vs.length → cnt' j = cnt j) : Ap A0 A el sz vs n c mk H cnt' :=
  ⟨h.next, h.ch, h.old, h.kp, h.own, fun j hj b r hb hg => by rw [hc j hj]; exact h.mark j hj b r hb hg⟩
theorem Ap.acc {H : AHeap} {cnt : Nat → Nat} (h : Ap A0 A el sz vs n c mk H cnt) (hi : ApIn A0 A el tg sz lsv vs n c) : Acc H tg 1 lsv vs.length vs :=
  h.kp.acc (by rw [h.next]; exact Nat.le_refl _) hi.acc hi.notin

/-- Before the lists are grown: all is written. -/
structure Ap1 (A0 A H1 : AHeap) (el tg sz : Nat) (lsv : Value) (vs : List Value) (n c : Nat → Nat) (mk : Nat → Nat → Int) : Prop where
  inn : ApIn A0 A el tg sz lsv vs n c
  ap : Ap A0 A el sz vs n c mk H1 n
theorem Ap1.row {H1 : AHeap} (h : Ap1 A0 A H1 el tg sz lsv vs n c mk) {j : Nat} (hj : j < vs.length) {b : Nat} (hb : blockOf vs[j] b) : ∃ r, vs[j] = .slice (some ⟨b, 0, none⟩) (n j) (c j) ∧ b < H1.next ∧ H1.get b = some (.row r) ∧ r.elem = el ∧ r.x = false ∧ r.st = 3 ∧ r.cells.length = c j * sz ∧ Mk sz (mk j) r.cells (n j) := by
  rcases (h.ap.own j hj).2 with ⟨h1, _⟩ | ⟨b', r, h1, h2, h3, h4, h5, h6, h7⟩
  · rw [h1] at hb; exact hb.elim
  · have hbb : b' = b := by rw [h1] at hb; exact hb
    subst hbb
    exact ⟨r, h1, h2, h3, h4, h5, h6, h7, h.ap.mark j hj b' r hb h3⟩
/-- What a list's turn turns lies below. -/
theorem Ap1.tnlt {H1 : AHeap} (h : Ap1 A0 A H1 el tg sz lsv vs n c mk) {j : Nat} (hj : j < vs.length) {x : Nat} (hx : Tn H1 vs[j] x) : x < H1.next ∧ A0.next ≤ x := by
  obtain ⟨b, hb, hc⟩ := hx
  obtain ⟨r, _, h2, h3, _⟩ := h.row hj hb
  have hb0 := (h.inn.blk j hj b hb).1
  rcases hc with rfl | ⟨r', h4, h5⟩
  · exact ⟨h2, hb0⟩
  · exact ⟨(h.ap.ch.low b r' h4 x h5).1, h.ap.ch.newO h.ap.old h4 hb0 x h5⟩
/-- It is no other row that may be written. -/
theorem Ap1.tnfree {H1 : AHeap} (h : Ap1 A0 A H1 el tg sz lsv vs n c mk) {j : Nat} (hj : j < vs.length) {x : Nat} {r : Row} (hg : H1.get x = some (.row r)) (hs : 2 ≤ r.st) (hx : Tn H1 vs[j] x) : blockOf vs[j] x := by
  obtain ⟨b, hb, hc⟩ := hx
  rcases hc with rfl | ⟨r', h4, h5⟩
  · exact hb
  · exact absurd h5 (h.ap.ch.free h4 hg hs)

theorem Ap1.init2 {H1 : AHeap} (h : Ap1 A0 A H1 el tg sz lsv vs n c mk) : Ap2 H1 el sz tg vs n mk H1 0 (.slice none 0 0) [] :=
  ⟨Nat.le_refl _, Nat.zero_le _, rfl, ⟨rfl, .inl ⟨rfl, rfl⟩⟩, fun b h => h.elim, fun _ _ _ => rfl, fun j hj => by simp at hj⟩

variable {H1 H Hs : AHeap} {k : Nat} {gv : Value} {gs : List Value}
theorem Ap2.at (h : Ap2 H1 el sz tg vs n mk H k gv gs) : ∃ o, gv = .slice o k k := h.acc.at
/-- The lists' list is as it was. -/
theorem Ap2.accL (h : Ap2 H1 el sz tg vs n mk H k gv gs) (h1 : Ap1 A0 A H1 el tg sz lsv vs n c mk) : Acc H tg 1 lsv vs.length vs := by
  have ha := h1.ap.acc h1.inn
  refine ⟨ha.1, ?_⟩
  rcases ha.2 with h2 | ⟨b, h2, h3, ch, fz, h4⟩
  · exact .inl h2
  · refine .inr ⟨b, h2, Nat.lt_of_lt_of_le h3 h.next, ch, fz, ?_⟩
    rw [h.frame b h3 fun j hj hjk ht => ?_]
    · exact h4
    · exact (h1.inn.blk j hj b (h1.tnfree hj h4 (by simp) ht)).2 (by rw [h2]; rfl)
/-- A list whose turn has not come. -/
theorem Ap2.init3 (h : Ap2 H1 el sz tg vs n mk Hs k gv gs) (h1 : Ap1 A0 A H1 el tg sz lsv vs n c mk) (hk : k < vs.length) : Ap3 H1 Hs el sz vs[k] (n k) (c k) (mk k) Hs 0 vs[k] := by
  refine ⟨Nat.le_refl _, fun b hb => ?_, fun _ _ _ => rfl, ?_⟩
  · obtain ⟨r, _, h2, _⟩ := h1.row hk hb
    exact Nat.lt_of_lt_of_le h2 h.next
  · rcases (h1.ap.own k hk).2 with ⟨h2, h3⟩ | ⟨b, r, h2, h3, h4, h5, h6, h7, h8⟩
    · have := (h1.ap.own k hk).1
      exact .inr (.inr ⟨h2, h2, by omega, rfl⟩)
    · have hb : blockOf vs[k] b := by rw [h2]; rfl
      refine .inl ⟨b, r, h2, h2, (h1.ap.own k hk).1, Nat.lt_of_lt_of_le h3 h.next, ?_, h5, h6, h7, h8, h1.ap.mark k hk b r hb h4, fun x hx => ⟨b, hb, .inr ⟨r, h4, hx⟩⟩⟩
      rw [h.frame b h3 fun j hj hjk ht => ?_]
      · exact h4
      · exact h1.inn.dis.ne hj hk (by omega) b (h1.tnfree hj h4 (by omega) ht) hb
/-- A list's turn is over. -/
theorem Ap2.push (h : Ap2 H1 el sz tg vs n mk Hs k gv gs) (h1 : Ap1 A0 A H1 el tg sz lsv vs n c mk) (hk : k < vs.length) {g : Value} (h3 : Ap3 H1 Hs el sz vs[k] (n k) (c k) (mk k) H 64 g) {b' : Nat} {G A' : AHeap} (hG : Ext H G)
    (hb' : G.next ≤ b') (hF : Fr (blockOf gv) G A') (hA : Acc A' tg 1 (.slice (some ⟨b', 0, none⟩) (k + 1) (k + 1)) (k + 1) (gs ++ [g])) : Ap2 H1 el sz tg vs n mk A' (k + 1) (.slice (some ⟨b', 0, none⟩) (k + 1) (k + 1)) (gs ++ [g]) := by
  have n1 := h.next
  have n2 := h3.next
  have n3 := hG.next
  have n4 := hF.next
  have hcap := (h1.inn.cap k hk).1
  have hgl : ∀ b, blockOf gv b → b < Hs.next := h.acc.lt
  -- what lies below Hs and is not turned
  have keep : ∀ x, x < Hs.next → ¬ Tn H1 vs[k] x → ¬ blockOf gv x → A'.get x = Hs.get x := fun x hx ht hb => by
    rw [hF.same x (by omega) hb, hG.same x (by omega) fun h => h]
    exact h3.frame x hx ht
  refine ⟨by omega, hk, by rw [List.length_append, h.len]; rfl, hA, fun b hb => by simp only [blockOf] at hb; omega, fun x hx ht => ?_, fun j hj hj' => ?_⟩
  · rw [keep x (by omega) (ht k hk (by omega)) fun hb => by have := h.gb x hb; omega]
    exact h.frame x hx fun j hj hjk => ht j hj (by omega)
  · by_cases hjk : j < k
    · have hj2 : j < gs.length := by rw [h.len]; exact hjk
      rw [List.getElem_append_left hj2]
      obtain ⟨⟨b, cells, g1, g2, g3, g4, g5⟩, g6⟩ := h.done j hj2 hj'
      have gl := g4.1
      refine ⟨⟨b, cells, g1, g2, fun hc => by simp only [blockOf] at hc; omega, ?_, g5⟩, fun b2 hb2 => ?_⟩
      · obtain ⟨_, ch, fz, g7⟩ := g4
        exact ⟨by omega, ch, fz, by rw [keep b gl (fun ht => by have := (h1.tnlt hk ht).1; omega) g3]; exact g7⟩
      · obtain ⟨r, k1, k2, k3⟩ := g6 b2 hb2
        obtain ⟨r1, _, m2, m3, _, _, m6, _⟩ := h1.row hj' hb2
        refine ⟨r, ?_, k2, k3⟩
        rw [keep b2 (by omega) (fun ht => h1.inn.dis.ne hj' hk (by omega) b2 hb2 (h1.tnfree hk m3 (by omega) ht)) fun hb => by have := h.gb b2 hb; omega]
        exact k1
    · have hj2 : j = gs.length := by rw [List.length_append] at hj; simp only [List.length_singleton] at hj; have := h.len; omega
      subst hj2
      have hkk : gs.length = k := h.len
      subst hkk
      rw [List.getElem_append_right (Nat.le_refl _)]
      simp only [Nat.sub_self,List.getElem_singleton]
      rcases h3.g with ⟨_, _, _, _, hle, _⟩ | ⟨_, ⟨b, cells, g1, g2, g3, g4, g5⟩, g6⟩ | ⟨_, _, _, h0⟩
      · omega
      · have gb' := g3.1
        refine ⟨⟨b, cells, g1, by omega, fun hc => by simp only [blockOf] at hc; omega, hF.app (hG.app g3 fun h => h) fun hb => by have := hgl b hb; omega, g5⟩, fun b2 hb2 => ?_⟩
        obtain ⟨r, k1, k2, k3⟩ := g6 b2 hb2
        obtain ⟨r1, _, m2, _⟩ := h1.row hk hb2
        refine ⟨r, ?_, k2, k3⟩
        rw [hF.same b2 (by omega) fun hb => by have := h.gb b2 hb; omega, hG.same b2 (by omega) fun h => h]
        exact k1
      · omega
/-- What is left as it was. -/
theorem Ap2.fin (h : Ap2 H1 el sz tg vs n mk H k gv gs) (h1 : Ap1 A0 A H1 el tg sz lsv vs n c mk) : A.next ≤ H.next ∧ Old A0 H ∧ Kp (fun b => ∃ u ∈ vs, blockOf u b) A H := by
  have n1 := h.next
  have n2 := h1.ap.next
  have n3 := h1.inn.le
  refine ⟨by omega, fun x hx => ?_, fun x r hw hx hs => ?_⟩
  · rw [h.frame x (by omega) fun j hj _ ht => by have := (h1.tnlt hj ht).2; omega]
    exact h1.ap.old x hx
  · have hx1 := h1.ap.kp x r hw hx hs
    rw [h.frame x (h1.ap.ch.lt x _ hx1) fun j hj _ ht => hw ⟨_, List.getElem_mem hj, h1.tnfree hj hx1 hs ht⟩]
    exact hx1

theorem Acc.keep' {A A' : AHeap} {el sz n : Nat} {v : Value} {cells : List Value} (ha : Acc A el sz v n cells) (hn : A.next ≤ A'.next) (hk : ∀ b, blockOf v b → b < A.next → A'.get b = A.get b) : Acc A' el sz v n cells := by
  refine ⟨ha.1, ?_⟩
  rcases ha.2 with h1 | ⟨b, h1, h2, ch, fz, h3⟩
  · exact .inl h1
  · exact .inr ⟨b, h1, Nat.lt_of_lt_of_le h2 hn, ch, fz, by rw [hk b (by rw [h1]; rfl) h2]; exact h3⟩
theorem Ap3.accL {g : Value} {j : Nat} (hk : k < vs.length) (h3 : Ap3 H1 Hs el sz vs[k] (n k) (c k) (mk k) H j g) (h : Ap2 H1 el sz tg vs n mk Hs k gv gs) (h1 : Ap1 A0 A H1 el tg sz lsv vs n c mk) : Acc H tg 1 lsv vs.length vs := by
  refine (h.accL h1).keep' h3.next fun b hb hlt => h3.frame b hlt fun ht => ?_
  rcases (h1.ap.acc h1.inn).2 with ⟨h4, _⟩ | ⟨b', h4, _, ch, fz, h5⟩
  · rw [h4] at hb; exact hb.elim
  · have : b' = b := by rw [h4] at hb; exact hb
    subst this
    exact (h1.inn.blk k hk b' (h1.tnfree hk h5 (by simp) ht)).2 hb
theorem Ap3.accG {g : Value} {j : Nat} (hk : k < vs.length) (h3 : Ap3 H1 Hs el sz vs[k] (n k) (c k) (mk k) H j g) (h : Ap2 H1 el sz tg vs n mk Hs k gv gs) (h1 : Ap1 A0 A H1 el tg sz lsv vs n c mk) : Acc H tg 1 gv k gs :=
  h.acc.keep' h3.next fun b hb hlt => h3.frame b hlt fun ht => by have := (h1.tnlt hk ht).1; have := h.gb b hb; omega
theorem Ap2.done' (h : Ap2 H1 el sz tg vs n mk H vs.length gv gs) {j : Nat} (hj : j < vs.length) (h1 : Ap1 A0 A H1 el tg sz lsv vs n c mk) : ∃ (hg : j < gs.length) (b : Nat) (cells : List Value), gs[j] = .slice (some ⟨b, 0, none⟩) (n j + 64) (n j + 64) ∧ Dat H b el cells ∧ Mk sz (mk j) cells (n j + 64) ∧
    ∃ o, vs[j] = .slice o (n j) (c j) ∧ ∀ i, i < n j → ∃ b' r, o = some ⟨b', 0, none⟩ ∧ Dat H b' el r ∧ Mk sz (mk j) r (n j) := by
  have hg : j < gs.length := by rw [h.len]; exact hj
  obtain ⟨⟨b, cells, g1, _, _, g2, g3⟩, g4⟩ := h.done j hg hj
  refine ⟨hg, b, cells, g1, g2.dat, g3, ?_⟩
  obtain ⟨o, ho⟩ := (h1.ap.own j hj).slice
  refine ⟨o, ho, fun i hi => ?_⟩
  rcases (h1.ap.own j hj).2 with ⟨h2, _⟩ | ⟨b', r, h2, h3, h4, h5, h6, h7, h8⟩
  · rw [ho] at h2
    injection h2 with _ h3 _
    omega
  · obtain ⟨r2, k1, k2, k3⟩ := g4 b' (by rw [h2]; rfl)
    rw [ho] at h2
    injection h2 with h9 _ _
    exact ⟨b', r2.cells, h9, ⟨Nat.lt_of_lt_of_le h3 h.next, r2, k1, k2.2.1, k2.1, k2.2.2, rfl⟩, k3⟩
end Go.Sh
