/- Shadow, part 29: rows that no string was made of; pointers turned to unsafe ones and back; a string out of a row. -/
import Derived.Test.YteoefjahcbfpeaaSh2C
namespace Go.Sh
open Go
set_option linter.unusedSimpArgs false

/-- A row that its owner may grow, and of which no string was made. -/
def App0 (A : AHeap) (b : Nat) (el : TypeId) (cells : List Value) : Prop := b < A.next ∧ ∃ ch, A.get b = some (.row ⟨cells, el, false, 3, ch, false⟩)
def Acc0 (A : AHeap) (el : TypeId) (v : Value) (n : Nat) (cells : List Value) : Prop :=
  cells.length = n ∧ ((v = .slice none 0 0 ∧ n = 0) ∨ ∃ b, v = .slice (some ⟨b, 0, none⟩) n n ∧ App0 A b el cells)
theorem Fr.app0 {W : Nat → Prop} {A A' : AHeap} (h : Fr W A A') {b : Nat} {el : TypeId} {cells : List Value} (hb : App0 A b el cells) (hn : ¬ W b) : App0 A' b el cells :=
  ⟨Nat.lt_of_lt_of_le hb.1 h.next, by rw [h.same b hb.1 hn]; exact hb.2⟩
theorem Acc0.fr {W : Nat → Prop} {A A' : AHeap} (h : Fr W A A') {el n : Nat} {v : Value} {cells : List Value} (ha : Acc0 A el v n cells) (hw : ∀ b, blockOf v b → ¬ W b) : Acc0 A' el v n cells :=
  ⟨ha.1, ha.2.imp id fun ⟨b, h1, h2⟩ => ⟨b, h1, h.app0 h2 (hw b (by rw [h1]; rfl))⟩⟩
theorem Acc0.form {A : AHeap} {el n : Nat} {v : Value} {cells : List Value} (h : Acc0 A el v n cells) : ∃ o, v = .slice o n n := by
  rcases h.2 with ⟨h1, h2⟩ | ⟨b, h1, _⟩
  · exact ⟨none, by rw [h1, h2]⟩
  · exact ⟨_, h1⟩

section
variable {K : Ctx} {e : Env} {A : AHeap} {Q : Value → AHeap → Prop}

theorem OpW_append_of0 {t tx el by' n k : Nat} {s x : Operand} {cells new : List Value} {z : Value} (hok : okOpd s = true ∧ okOpd x = true) (ht : K.P.underlying t = some (.slice el))
    (hx : srcKind (K.P.underlying tx) = true) (hsz : tsize K.P el = some 1) (hby : tbytes K.P el = some by') (hz : tzero K.P el = some z) (hsrc : aSrc A 1 (opv e x) = some (k, new)) (hnew : new.length = k * 1 ∧ new.all one = true)
    (hk : 0 < k) (hc : z.cells.size = 1 ∧ 0 < by' ∧ (n + k) * by' ≤ 140737488355328) (ha : Acc0 A el (opv e s) n cells)
    (h : ∀ b A', b = A.next → A'.next = b + 1 → Fr (blockOf (opv e s)) A A' → Acc0 A' el (.slice (some ⟨b, 0, none⟩) (n + k) (n + k)) (n + k) (cells ++ new) → Q (.slice (some ⟨b, 0, none⟩) (n + k) (n + k)) A') :
    OpW K (.call { callee := .builtin .append, args := #[s, x], argTypes := #[t, tx] }) e A Q := by
  rw [OpW_append]
  refine ⟨hok, ?_⟩
  obtain ⟨hlen, hs⟩ := ha
  have hlen' : (cells ++ new).length = n + k := by rw [List.length_append, hlen, hnew.1]; omega
  have hc' : 0 < 1 ∧ z.cells.size = 1 ∧ 0 < by' ∧ (n + k) * by' ≤ 140737488355328 := ⟨by omega, hc⟩
  rcases hs with ⟨hs, rfl⟩ | ⟨b, hs, hb⟩
  · have hcs : cells = [] := List.eq_nil_of_length_eq_zero hlen
    subst hcs
    refine ⟨(.slice (some ⟨A.next, 0, none⟩) (0 + k) (0 + k), A.alloc (.row ⟨new, el, false, 3, [], false⟩)), ?_, ?_⟩
    · rw [hs]
      simp only [aAppend, hx, if_true, ht, hsz, hby, hz, hsrc]
      rw [if_pos hnew, if_neg (by omega), if_pos hc']
      rfl
    · refine h _ _ rfl rfl (Ext.alloc _ _).fr ⟨hlen', .inr ⟨_, rfl, by simp, [], by rw [AHeap.get_alloc, if_pos rfl]; rfl⟩⟩
  · obtain ⟨hlt, ch, hg⟩ := hb
    have hrow : arow A b = some ⟨cells, el, false, 3, ch, false⟩ := by simp [Sh.arow, hg]
    refine ⟨(.slice (some ⟨A.next, 0, none⟩) (n + k) (n + k), (A.set b (.row ⟨cells, el, false, 1, ch, false⟩)).alloc (.row ⟨cells ++ new, el, false, 3, b :: ch, false⟩)), ?_, ?_⟩
    · rw [hs]
      simp only [aAppend, hx, if_true, ht, hsz, hby, hz, hsrc]
      rw [if_pos hnew, if_neg (by omega), if_pos hc']
      simp [aAppOut, hrow, hlen]
    · refine h _ _ rfl rfl ?_ ⟨hlen', .inr ⟨_, rfl, by simp, b :: ch, by rw [AHeap.get_alloc, AHeap.next_set, if_pos rfl]⟩⟩
      refine Fr.of (by simp) fun j hj => ?_
      rw [AHeap.get_alloc, AHeap.next_set, if_neg (by omega), AHeap.get_set]
      by_cases hjb : j = b
      · subst hjb
        refine .inr ⟨by rw [hs]; rfl, fun r hr _ _ => ?_⟩
        rw [hg] at hr
        cases hr
        exact ⟨_, if_pos rfl, rfl, by simp, rfl, rfl⟩
      · exact .inl (if_neg hjb)

theorem OpW_toUnsafe {s d t : TypeId} {n : Nat} (hs : K.P.underlying s = some (.pointer t)) (hd : K.P.underlying d = some .unsafePointer) (ht : tsize K.P t = some (n + 1)) {x : Operand} {b : Nat} {el : TypeId} {cells : List Value} (hok : okOpd x = true)
    (hx : opv e x = .pointer (some ⟨b, 0, none⟩)) (hb : Box A b el cells) (hc : 0 < cells.length) (hq : Q (.pointer (some ⟨b, 0, none⟩)) A) : OpW K (.convert s d x) e A Q := by
  refine OpW_by rfl (by simpa [Op.operands] using hok) (evB_read ?_ ?_) hq
  · simp only [aPure, aConvert, hs, hd, hx]
  · simp only [aRead, hs, hd, hx, aUnsafe, hb.arow, ht, hc, if_true]
theorem OpW_fromUnsafe {s d u : TypeId} {n : Nat} (hs : K.P.underlying s = some .unsafePointer) (hd : K.P.underlying d = some (.pointer u)) (hu : tsize K.P u = some (n + 1)) {x : Operand} {b : Nat} {cells : List Value} (hok : okOpd x = true)
    (hx : opv e x = .pointer (some ⟨b, 0, none⟩)) (hb : Box A b u cells) (hc : cells.length = n + 1) (hq : Q (.pointer (some ⟨b, 0, none⟩)) A) : OpW K (.convert s d x) e A Q := by
  refine OpW_by rfl (by simpa [Op.operands] using hok) (evB_read ?_ ?_) hq
  · simp only [aPure, aConvert, hs, hd, hx]
  · simp only [aRead, hs, hd, hx, aUnsafe, hb.arow, hu, hc, and_self, if_true]

theorem aBin_ptr_self {P : Program} {t el : TypeId} {n : Nat} {c : Bool} (ht : P.underlying t = some (.pointer el)) (hs : tsize P el = some (n + 1)) (b : Nat) : aBin P .neq t c (.pointer (some ⟨b, 0, none⟩)) (.pointer (some ⟨b, 0, none⟩)) = some (.bool false) := by
  simp [aBin, isNilIface, aEq, aEq0, ht, hs]

theorem OpW_sliceData {tys : Array TypeId} {x : Operand} {a : Addr} {n c : Nat} (hok : okOpd x = true) (hx : opv e x = .slice (some a) n (c + 1)) (hq : Q (.pointer (some a)) A) :
    OpW K (.call { callee := .builtin .unsafeSliceData, args := #[x], argTypes := tys }) e A Q := by
  refine OpW_by rfl (by simpa [Op.operands, Call.operands] using hok) (evB_pure ?_) hq
  simp [aPure, aPureCall, hx]

theorem OpW_strOf {pt it el : TypeId} (hp : K.P.underlying pt = some (.pointer el)) (hs : tsize K.P el = some 1) {x y : Operand} {b n : Nat} {l : List UInt8} (hok : okOpd x = true ∧ okOpd y = true) (hx : opv e x = .pointer (some ⟨b, 0, none⟩))
    (hy : opv e y = .int .i64 n) (hn : n = l.length ∧ 0 < n ∧ n < 9223372036854775808) (hb : App0 A b el (u8s l)) (hq : ∀ A', A'.next = A.next → Fr (fun j => j = b) A A' → Q (.string ⟨l.toArray⟩) A') :
    OpW K (.call { callee := .builtin .unsafeString, args := #[x, y], argTypes := #[pt, it] }) e A Q := by
  obtain ⟨hlt, ch, hg⟩ := hb
  have hrow : arow A b = some ⟨u8s l, el, false, 3, ch, false⟩ := by simp [Sh.arow, hg]
  obtain ⟨h1, h2, h3⟩ := hn
  have hcells : acells A b 0 n = some (u8s l) := by
    rw [acells_of hrow (by simp [u8s]; omega)]
    rw [List.drop_zero, List.take_of_length_le (by simp [u8s]; omega)]
  refine OpW_by (v := .string ⟨l.toArray⟩) (A' := A.set b (.row ⟨u8s l, el, false, 2, ch, false⟩)) rfl (by simp [Op.operands, Call.operands, hok]) (evB_eff ?_ ?_ ?_) (hq _ rfl ?_)
  · simp [aPure, aPureCall]
  · simp [aRead]
  · simp only [aEff]
    have hk0 : ¬ ((n : Int) = 0) := by omega
    have hcond : 0 < (n : Int) ∧ (n : Int) ≤ 9223372036854775807 := by omega
    simp only [Array.toList_map, List.map_cons, List.map_nil, aUnsafeString, hx, hy, if_neg hk0, hp, hrow, hcond, hs, Int.toNat_natCast, hcells, aBytes_u8s, Option.map_some]
    simp
  · refine Fr.of (by simp) fun j hj => ?_
    rw [AHeap.get_set]
    by_cases hjb : j = b
    · subst hjb
      refine .inr ⟨rfl, fun r hr _ _ => ?_⟩
      rw [hg] at hr
      cases hr
      exact ⟨_, if_pos rfl, rfl, by simp, rfl, rfl⟩
    · exact .inl (if_neg hjb)
end
end Go.Sh
