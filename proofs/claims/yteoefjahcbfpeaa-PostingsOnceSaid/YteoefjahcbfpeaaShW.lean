/- Shadow, part 23: functions that hand over items one by one, and ranges over them. -/
import Derived.Test.YteoefjahcbfpeaaShU
namespace Go.Sh
open Go

/-- What stays: blocks below the base and those of W; data. -/
structure Keep (base : Nat) (W : Nat → Prop) (A A' : AHeap) : Prop where
  next : A.next ≤ A'.next
  same : ∀ b, b < A.next → (b < base ∨ W b) → A'.get b = A.get b
  dat : ∀ b el cells, Dat A b el cells → Dat A' b el cells

theorem Fr.keep {G W : Nat → Prop} {base : Nat} {A A' : AHeap} (h : Fr G A A') (hg : ∀ b, b < A.next → G b → base ≤ b ∧ ¬ W b) : Keep base W A A' :=
  ⟨h.next, fun b hb hw => h.same b hb fun hc => hw.elim (fun h1 => by have := (hg b hb hc).1; omega) (hg b hb hc).2, h.dat⟩
theorem Keep.low {base base' : Nat} {W W' : Nat → Prop} {A A' : AHeap} (h : Keep base W A A') (hb : base' ≤ base) (hw : ∀ b, W' b → b < base ∨ W b) : Keep base' W' A A' :=
  ⟨h.next, fun b hlt hc => h.same b hlt (hc.elim (fun h1 => .inl (by omega)) (hw b)), h.dat⟩

theorem Keep.box {base : Nat} {W : Nat → Prop} {A A' : AHeap} (h : Keep base W A A') {b : Nat} {el : TypeId} {cells : List Value} (hb : Box A b el cells) (hw : b < base ∨ W b) : Box A' b el cells :=
  ⟨Nat.lt_of_lt_of_le hb.1 h.next, by rw [h.same b hb.1 hw]; exact hb.2⟩
theorem Keep.app {base : Nat} {W : Nat → Prop} {A A' : AHeap} (h : Keep base W A A') {b : Nat} {el : TypeId} {cells : List Value} (hb : App A b el cells) (hw : b < base ∨ W b) : App A' b el cells :=
  ⟨Nat.lt_of_lt_of_le hb.1 h.next, by rw [h.same b hb.1 hw]; exact hb.2⟩
theorem Keep.acc {base : Nat} {W : Nat → Prop} {A A' : AHeap} (h : Keep base W A A') {el sz n : Nat} {v : Value} {cells : List Value} (ha : Acc A el sz v n cells) (hw : ∀ b, blockOf v b → b < base ∨ W b) : Acc A' el sz v n cells :=
  ⟨ha.1, ha.2.imp id fun ⟨b, h1, h2⟩ => ⟨b, h1, h.app h2 (hw b (by rw [h1]; rfl))⟩⟩
theorem Keep.elems {base : Nat} {W : Nat → Prop} {A A' : AHeap} (h : Keep base W A A') {el sz n : Nat} {v : Value} {cells : List Value} (he : Elems A el sz v n cells) : Elems A' el sz v n cells :=
  ⟨he.1, he.2.imp id fun ⟨b, h1, h2⟩ => ⟨b, h1, h.dat _ _ _ h2⟩⟩
theorem Keep.loop {base : Nat} {W : Nat → Prop} {A A' : AHeap} (h : Keep base W A A') {l : Nat} (hl : l < A.next) (hw : l < base ∨ W l) : getLoopA A' l = getLoopA A l := by
  unfold getLoopA; rw [h.same l hl hw]

/-- The rounds of a loop, as the function that hands over the items sees them. R: what it hands over in round i; Rd: variables that it reads; I: what holds ahead of round i; S: what holds when a round has said 'no more'. -/
structure Rounds (K : Ctx) (l N : Nat) (R : Nat → Array Value → AHeap → Prop) (base : Nat) (Rd : Nat → Prop) (I : Nat → (Nat → Prop) → AHeap → Prop) (S : (Nat → Prop) → AHeap → Prop) : Prop where
  round : ∀ i W A xs, i < N → I i W A → base ≤ A.next → (∀ b, W b → b < A.next ∧ ¬ Rd b) → R i xs A → Rnd K l xs A fun v A' =>
    ∃ W', Fr W A A' ∧ (∀ b, W' b → b < A'.next ∧ (W b ∨ A.next ≤ b)) ∧ ((v = .bool true ∧ I (i + 1) W' A') ∨ (v = .bool false ∧ S W' A'))
  stab : ∀ i W A A', I i W A → Keep base W A A' → I i W A'
  stabS : ∀ W A A', S W A → Keep base W A A' → S W A'

/-- A function that hands over N items, from this memory on. -/
def IterAt (K : Ctx) (g : FuncId) (fs cs : Array Value) (A1 : AHeap) (N : Nat) (R : Nat → Array Value → AHeap → Prop) (Rd : Nat → Prop) : Prop :=
  ∀ l I S W1 Q, Rounds K l N R A1.next Rd I S → I 0 W1 A1 → (∀ b, W1 b → b < A1.next ∧ ¬ Rd b) →
    (∀ v A' W', Fr W1 A1 A' → (∀ b, W' b → b < A'.next ∧ (W1 b ∨ A1.next ≤ b)) → (I N W' A' ∨ S W' A') → Q v A') →
    Cal K g (fs ++ #[.func (.yield l) #[] #[]] ++ cs) A1 Q

/-- What such a function rests upon stays. -/
structure KeepR (Rd : Nat → Prop) (A A1 : AHeap) : Prop where
  next : A.next ≤ A1.next
  same : ∀ b, Rd b → A1.get b = A.get b
  dat : ∀ b el cells, Dat A b el cells → Dat A1 b el cells

def ItV (K : Ctx) (A : AHeap) (fv : Value) (N : Nat) (R : Nat → Array Value → AHeap → Prop) (Rd : Nat → Prop) : Prop :=
  (∀ b, Rd b → b < A.next) ∧ ∃ g fs cs, fv = .func (.func g) fs cs ∧ ∀ A1, KeepR Rd A A1 → IterAt K g fs cs A1 N R Rd

theorem Fr.keepR {W Rd : Nat → Prop} {A A1 : AHeap} (h : Fr W A A1) (hr : ∀ b, Rd b → b < A.next ∧ ¬ W b) : KeepR Rd A A1 := ⟨h.next, fun b hb => h.same b (hr b hb).1 (hr b hb).2, h.dat⟩
theorem KeepR.trans {Rd : Nat → Prop} {A B C : AHeap} (h : KeepR Rd A B) (k : KeepR Rd B C) : KeepR Rd A C := ⟨Nat.le_trans h.next k.next, fun b hb => by rw [k.same b hb, h.same b hb], fun b el cs hd => k.dat _ _ _ (h.dat _ _ _ hd)⟩
theorem ItV.fr {K : Ctx} {W : Nat → Prop} {A A1 : AHeap} {fv : Value} {N : Nat} {R : Nat → Array Value → AHeap → Prop} {Rd : Nat → Prop} (h : Fr W A A1) (hi : ItV K A fv N R Rd) (hr : ∀ b, Rd b → ¬ W b) : ItV K A1 fv N R Rd := by
  obtain ⟨h0, g, fs, cs, h1, h2⟩ := hi
  exact ⟨fun b hb => Nat.lt_of_lt_of_le (h0 b hb) h.next, g, fs, cs, h1, fun A2 k => h2 A2 ((h.keepR fun b hb => ⟨h0 b hb, hr b hb⟩).trans k)⟩

/-- A range over such a function. J: what holds ahead of round i; JS: what holds when a round was left by such an exit. -/
theorem range_of {K : Ctx} {f : Operand} {ps : Array Tmp} {assign body : Code} {nt : Nat} {e : Env} {A : AHeap} {Q : AExit → Env → AHeap → Prop} {fv : Value} {N : Nat} {R : Nat → Array Value → AHeap → Prop} {Rd : Nat → Prop}
    (hok : okOpd f = true) (hit : ItV K A fv N R Rd) (hf : opv e f = fv) (J : Nat → (Nat → Prop) → AHeap → Prop) (JS : AExit → (Nat → Prop) → AHeap → Prop) (W0 : Nat → Prop)
    (h0 : ∀ A', Fr (fun _ => False) A A' → J 0 W0 A') (hW0 : ∀ b, W0 b → b < A.next ∧ ¬ Rd b)
    (stab : ∀ i W B B', J i W B → Keep A.next W B B' → J i W B') (stabS : ∀ x W B B', JS x W B → Keep A.next W B B' → JS x W B')
    (round : ∀ i W B xs, i < N → J i W B → A.next < B.next → (∀ b, W b → b < B.next ∧ ¬ Rd b ∧ b ≠ A.next ∧ (W0 b ∨ A.next < b)) → R i xs B → arow B A.next = none → xs.size = ps.size ∧ ∃ e1, bindAll nt e ps.toList xs.toList = some e1 ∧
      Cod K assign nt e1 B fun x e2 B2 => x = .normal ∧ Ext B B2 ∧ ∀ B3, B3.next = B2.next → Fr (fun j => j = A.next) B2 B3 → Cod K body nt e2 B3 fun x _ B4 =>
        Fr (fun b => W b ∨ B.next ≤ b) B3 B4 ∧ (x = .normal → J (i + 1) (fun b => W b ∨ (B.next ≤ b ∧ b < B4.next)) B4) ∧ (x ≠ .normal → JS x (fun b => W b ∨ (B.next ≤ b ∧ b < B4.next)) B4))
    (hQ : ∀ W B, A.next < B.next → Fr W0 A B → (∀ b, W b → b < B.next ∧ (W0 b ∨ A.next < b)) → J N W B → Q .normal e B)
    (hQS : ∀ x W B, x ≠ .normal → A.next < B.next → Fr W0 A B → (∀ b, W b → b < B.next ∧ (W0 b ∨ A.next < b)) → JS x W B → Q x e B) : Cod K (.rangeFunc f ps assign body) nt e A Q := by
  obtain ⟨hRd, g, fs, cs, hfv, hAt⟩ := hit
  refine Cod_rangeFunc hok (hf.trans hfv) ?_
  let l := A.next
  let lo0 : ALoop := ⟨.ready, none, e, nt, ps, assign, body⟩
  have hA1n : (A.alloc (.loop lo0)).next = l + 1 := rfl
  have hext : Ext A (A.alloc (.loop lo0)) := Ext.alloc _ _
  have hl1 : getLoopA (A.alloc (.loop lo0)) l = some lo0 := by unfold getLoopA; rw [AHeap.get_alloc, if_pos rfl]
  -- W without the record
  let I : Nat → (Nat → Prop) → AHeap → Prop := fun i Wf B => ∃ W, (∀ b, Wf b ↔ W b ∨ b = l) ∧ (∀ b, W b → b < B.next ∧ ¬ Rd b ∧ b ≠ l ∧ (W0 b ∨ l < b)) ∧ l < B.next ∧ J i W B ∧ getLoopA B l = some lo0
  let S : (Nat → Prop) → AHeap → Prop := fun Wf B => ∃ W x, (∀ b, Wf b ↔ W b ∨ b = l) ∧ (∀ b, W b → b < B.next ∧ ¬ Rd b ∧ b ≠ l ∧ (W0 b ∨ l < b)) ∧ l < B.next ∧ x ≠ .normal ∧ JS x W B ∧
    ∃ st, st ≠ .busy ∧ getLoopA B l = some { lo0 with state := st, pending := x.jump }
  have hlRd : ¬ Rd l := fun h => by have := hRd l h; omega
  have key : ∀ i Wf B B', I i Wf B → Keep (l + 1) Wf B B' → I i Wf B' := by
    rintro i Wf B B' ⟨W, h1, h2, h3, h4, h5⟩ hk
    refine ⟨W, h1, fun b hb => ⟨Nat.lt_of_lt_of_le (h2 b hb).1 hk.next, (h2 b hb).2⟩, Nat.lt_of_lt_of_le h3 hk.next, stab i W B B' h4 (hk.low (Nat.le_succ _) fun b hb => .inr ((h1 b).2 (.inl hb))), ?_⟩
    rw [hk.loop h3 (.inl (Nat.lt_succ_self _))]; exact h5
  refine hAt _ (hext.keepR fun b hb => ⟨hRd b hb, fun h => h⟩) l I S (fun b => W0 b ∨ b = l) _ ⟨?_, key, ?_⟩ ?_ ?_ ?_
  · -- a round
    rintro i Wf B xs hi ⟨W, h1, h2, h3, h4, h5⟩ hbase hWf hR
    obtain ⟨hsz, e1, hb, hc⟩ := round i W B xs hi h4 h3 h2 hR (by unfold Sh.arow; rw [getLoopA_get h5])
    refine Rnd_of h5 hsz hb (hc.mono ?_)
    rintro x e2 B2 ⟨rfl, hE, hbody⟩
    have hl2 : getLoopA B2 l = some lo0 := by rw [hE.loop h3 fun h => h]; exact h5
    have hset := Fr.setLoop hl2 (.loop { lo0 with state := .busy })
    refine ⟨lo0, hl2, rfl, (hbody (B2.set l (.loop { lo0 with state := .busy })) rfl hset).mono ?_⟩
    rintro x e4 B4 ⟨hF, hJ, hJS⟩
    have hl3 : getLoopA (B2.set l (.loop { lo0 with state := .busy })) l = some { lo0 with state := .busy } := by unfold getLoopA; rw [AHeap.get_set, if_pos rfl]
    have hlW : ¬ W l := fun h => (h2 l h).2.2.1 rfl
    have hlt2 : l < B2.next := Nat.lt_of_lt_of_le h3 hE.next
    have hl4 : getLoopA B4 l = some { lo0 with state := .busy } := by
      rw [hF.loop (by exact hlt2) (fun h => h.elim hlW fun h => by omega)]; exact hl3
    have hset4 := Fr.setLoop hl4 (.loop { ({ lo0 with state := .busy } : ALoop) with state := if x.jump.isNone then .ready else .done, pending := x.jump })
    refine ⟨_, hl4, ?_⟩
    let W' : Nat → Prop := fun b => W b ∨ (B.next ≤ b ∧ b < B4.next)
    have hB24 : B2.next ≤ B4.next := hF.next
    have hW'l : ∀ b, b = l → ¬ W' b := by
      rintro b rfl (h | h)
      · exact hlW h
      · omega
    have hkeep : Keep l W' B4 (B4.set l (.loop { ({ lo0 with state := .busy } : ALoop) with state := if x.jump.isNone then .ready else .done, pending := x.jump })) :=
      hset4.keep fun b _ hb => ⟨Nat.le_of_eq hb.symm, hW'l b hb⟩
    have hlast : getLoopA (B4.set l (.loop { ({ lo0 with state := .busy } : ALoop) with state := if x.jump.isNone then .ready else .done, pending := x.jump })) l =
        some { lo0 with state := if x.jump.isNone then .ready else .done, pending := x.jump } := by unfold getLoopA; rw [AHeap.get_set, if_pos rfl]
    have hWfr : ∀ b, W' b → b < B4.next ∧ ¬ Rd b ∧ b ≠ l ∧ (W0 b ∨ l < b) := by
      rintro b (hb | ⟨hb1, hb2⟩)
      · exact ⟨Nat.lt_of_lt_of_le (h2 b hb).1 (Nat.le_trans hE.next hB24), (h2 b hb).2⟩
      · exact ⟨hb2, fun h => by have := hRd b h; omega, by omega, .inr (by omega)⟩
    refine ⟨fun b => W' b ∨ b = l, ?_, ?_, ?_⟩
    · refine Fr.trans (W := Wf) (W' := fun j => j = l) (Fr.trans (W := Wf) (W' := fun b => W b ∨ B.next ≤ b) (Fr.trans (W := Wf) (W' := fun j => j = l) hE.fr hset ?_) hF ?_) hset4 ?_
      · intro b _ hb; exact (h1 b).2 (.inr hb)
      · intro b hb hc; exact (h1 b).2 (.inl (hc.resolve_right (by omega)))
      · intro b _ hb; exact (h1 b).2 (.inr hb)
    · rintro b (hb | rfl)
      · exact ⟨(hWfr b hb).1, hb.elim (fun h => .inl ((h1 b).2 (.inl h))) fun h => .inr h.1⟩
      · exact ⟨by show l < B4.next; omega, .inl ((h1 _).2 (.inr rfl))⟩
    · cases x with
      | normal =>
        refine .inl ⟨rfl, W', fun b => Iff.rfl, hWfr, by show l < B4.next; omega, stab _ _ _ _ (hJ rfl) hkeep, hlast⟩
      | ret => exact .inr ⟨rfl, W', .ret, fun b => Iff.rfl, hWfr, by show l < B4.next; omega, (by simp), stabS _ _ _ _ (hJS (by simp)) hkeep, _, (by simp [AExit.jump]), hlast⟩
      | exit id => exact .inr ⟨rfl, W', .exit id, fun b => Iff.rfl, hWfr, by show l < B4.next; omega, (by simp), stabS _ _ _ _ (hJS (by simp)) hkeep, _, (by simp [AExit.jump]), hlast⟩
  · rintro Wf B B' ⟨W, x, h1, h2, h3, hx, h4, st, hst, h5⟩ hk
    refine ⟨W, x, h1, fun b hb => ⟨Nat.lt_of_lt_of_le (h2 b hb).1 hk.next, (h2 b hb).2⟩, Nat.lt_of_lt_of_le h3 hk.next, hx, stabS x W B B' h4 (hk.low (Nat.le_succ _) fun b hb => .inr ((h1 b).2 (.inl hb))), st, hst, ?_⟩
    rw [hk.loop h3 (.inl (Nat.lt_succ_self _))]; exact h5
  · exact ⟨W0, fun b => Iff.rfl, fun b hb => ⟨by have := (hW0 b hb).1; rw [hA1n]; omega, (hW0 b hb).2, by have := (hW0 b hb).1; omega, .inl hb⟩, by rw [hA1n]; omega, h0 _ hext, hl1⟩
  · rintro b (hb | rfl)
    · exact ⟨by have := (hW0 b hb).1; rw [hA1n]; omega, (hW0 b hb).2⟩
    · exact ⟨by rw [hA1n]; omega, hlRd⟩
  · intro v B Wf hF hWf hIS
    have hFW : Fr (fun b => W0 b ∨ b = l) A B := Fr.trans hext.fr hF fun b _ h => h
    have hFA : Fr W0 A B := hFW.weaken fun b hb h => h.resolve_right (by omega)
    have hnext : l < B.next := by have := hF.next; rw [hA1n] at this; omega
    rcases hIS with ⟨W, h1, h2, h3, h4, h5⟩ | ⟨W, x, h1, h2, h3, hx, h4, st, hst, h5⟩
    · refine ⟨lo0, h5, (by simp [lo0]), ?_⟩
      have hset := Fr.setLoop h5 (.loop { lo0 with state := .exhausted })
      have hk : Keep l W B (B.set l (.loop { lo0 with state := .exhausted })) := hset.keep fun b _ hb => ⟨Nat.le_of_eq hb.symm, fun h => (h2 b h).2.2.1 hb⟩
      exact hQ W (B.set l (.loop { lo0 with state := .exhausted })) hnext (Fr.trans hFA hset fun b hb h => by omega) (fun b hb => ⟨(h2 b hb).1, (h2 b hb).2.2.2⟩) (stab _ _ _ _ h4 hk)
    · refine ⟨_, h5, hst, ?_⟩
      have hset := Fr.setLoop h5 (.loop { ({ lo0 with state := st, pending := x.jump } : ALoop) with state := .exhausted })
      have hk : Keep l W B (B.set l (.loop { ({ lo0 with state := st, pending := x.jump } : ALoop) with state := .exhausted })) := hset.keep fun b _ hb => ⟨Nat.le_of_eq hb.symm, fun h => (h2 b h).2.2.1 hb⟩
      have hfin := hQS x W (B.set l (.loop { ({ lo0 with state := st, pending := x.jump } : ALoop) with state := .exhausted })) hx hnext (Fr.trans hFA hset fun b hb h => by omega) (fun b hb => ⟨(h2 b hb).1, (h2 b hb).2.2.2⟩) (stabS _ _ _ _ h4 hk)
      cases x with
      | normal => exact absurd rfl hx
      | ret => exact hfin
      | exit id => exact hfin
end Go.Sh
