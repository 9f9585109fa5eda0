/- Shadow, part 15: a region that draws its order. -/
import Derived.Test.YteoefjahcbfpeaaShN
namespace Go.Sh
open Go

/-! ### Who must go ahead of whom -/

theorem testBit_fold (acc : List Nat) (j : Nat) : ∀ (eds : List Edge) (s : Nat), (eds.foldl (fun s (ed : Edge) => if Region.binds .any ed then s ||| 2 ^ ed.on ||| acc.getD ed.on 0 else s) s).testBit j = true →
    s.testBit j = true ∨ ∃ ed ∈ eds, Region.binds .any ed = true ∧ (j = ed.on ∨ (acc.getD ed.on 0).testBit j = true) := by
  intro eds
  induction eds with
  | nil => intro s h; exact .inl h
  | cons ed eds ih =>
    intro s h
    simp only [List.foldl_cons] at h
    rcases ih _ h with h1 | ⟨e, he, h2⟩
    · split at h1
      · rename_i hb
        simp only [Nat.testBit_or, Bool.or_eq_true, Nat.testBit_two_pow] at h1
        rcases h1 with (h1 | h1) | h1
        · exact .inl h1
        · exact .inr ⟨ed, by simp, hb, .inl (by simpa using (of_decide_eq_true h1).symm)⟩
        · exact .inr ⟨ed, by simp, hb, .inr h1⟩
      · exact .inl h1
    · exact .inr ⟨e, by simp [he], h2⟩

def ancF (acc : List Nat) (o : Oper) : List Nat :=
  acc ++ [o.after.toList.foldl (fun s (ed : Edge) => if Region.binds .any ed then s ||| 2 ^ ed.on ||| acc.getD ed.on 0 else s) 0]

theorem ancs_prefix : ∀ (ops : List Oper) (acc : List Nat), ∃ l, ops.foldl ancF acc = acc ++ l ∧ l.length = ops.length := by
  intro ops
  induction ops with
  | nil => intro acc; exact ⟨[], by simp, rfl⟩
  | cons o ops ih =>
    intro acc
    obtain ⟨l, h1, h2⟩ := ih (ancF acc o)
    exact ⟨o.after.toList.foldl (fun s (ed : Edge) => if Region.binds .any ed then s ||| 2 ^ ed.on ||| acc.getD ed.on 0 else s) 0 :: l, by
      rw [List.foldl_cons, h1, ancF, List.append_assoc, List.singleton_append], by simp [h2]⟩

theorem ancs_step : ∀ (ops : List Oper) (acc : List Nat) (i : Nat) (o : Oper) (j : Nat), ops[i]? = some o → ((ops.foldl ancF acc).getD (acc.length + i) 0).testBit j = true →
    ∃ ed ∈ o.after, Region.binds .any ed = true ∧ (j = ed.on ∨ ((ops.foldl ancF acc).getD ed.on 0).testBit j = true) := by
  intro ops
  induction ops with
  | nil => intro acc i o j h; simp at h
  | cons o ops ih =>
    intro acc i o' j h hb
    simp only [List.foldl_cons] at hb ⊢
    cases i with
    | zero =>
      simp only [List.getElem?_cons_zero, Option.some.injEq] at h
      subst h
      obtain ⟨l, h1, h2⟩ := ancs_prefix ops (ancF acc o)
      rw [h1] at hb ⊢
      simp only [ancF, Nat.add_zero, List.getD_eq_getElem?_getD, List.append_assoc, List.singleton_append] at hb
      rw [List.getElem?_append_right (Nat.le_refl _)] at hb
      simp only [Nat.sub_self, List.getElem?_cons_zero, Option.getD_some, ← List.getD_eq_getElem?_getD] at hb
      rcases testBit_fold acc j _ 0 hb with h3 | ⟨ed, he, h3, h4⟩
      · simp at h3
      · refine ⟨ed, by simpa using he, h3, h4.imp id fun h5 => ?_⟩
        by_cases hlt : ed.on < acc.length
        · simp only [ancF, List.append_assoc, List.getD_eq_getElem?_getD]
          rw [List.getElem?_append_left hlt, ← List.getD_eq_getElem?_getD]
          exact h5
        · rw [List.getD_eq_getElem?_getD, List.getElem?_eq_none (by omega)] at h5
          simp at h5
    | succ i =>
      simp only [List.getElem?_cons_succ] at h
      refine ih (ancF acc o) i o' j h ?_
      have : (ancF acc o).length + i = acc.length + (i + 1) := by simp [ancF]; omega
      rw [this]; exact hb

theorem isAnc_step {ops : List Oper} {i j : Nat} {o : Oper} (h : ops[i]? = some o) (ha : isAnc (ancs ops) j i = true) :
    ∃ ed ∈ o.after, Region.binds .any ed = true ∧ (j = ed.on ∨ isAnc (ancs ops) j ed.on = true) := by
  have := ancs_step ops [] i o j h (by rw [List.length_nil, Nat.zero_add]; exact ha)
  exact this

section
variable {P : Program} {ops : Array Oper}

structure DrawFacts (P : Program) (ops : Array Oper) : Prop where
  back : ∀ j o, ops[j]? = some o → ∀ ed ∈ o.after, Region.binds .any ed = true → ed.on < j
  apart : ∀ i j oi oj, ops[i]? = some oi → ops[j]? = some oj → j < i → isAnc (ancs ops.toList) j i = true ∨
    ((∀ t, oi.dst = some t → t ∉ namesOf ops oj) ∧ (∀ t, oj.dst = some t → t ∉ namesOf ops oi) ∧ ¬ (kindS P oi.op = 3 ∧ kindS P oj.op = 3))

theorem drawOk_facts (h : drawOk P ops = true) : DrawFacts P ops := by
  unfold drawOk at h
  have hz : ∀ j o, ops[j]? = some o → (o, j) ∈ ops.toList.zipIdx := fun j o ho => by
    rw [List.mem_zipIdx_iff_getElem?]; simpa using ho
  have key := fun j o ho => (List.all_eq_true.1 h) _ (hz j o ho)
  constructor
  · intro j o ho ed hed hb
    have := key j o ho
    simp only [Bool.and_eq_true] at this
    have h2 := (List.all_eq_true.1 this.1) ed (by simpa using hed)
    simp only [hb, Bool.not_true, Bool.false_or, decide_eq_true_eq] at h2
    exact h2
  · intro i j oi oj hi hj hlt
    have := key i oi hi
    simp only [Bool.and_eq_true] at this
    have h2 := (List.all_eq_true.1 this.2) _ (hz j oj hj)
    simp only [Bool.or_eq_true, decide_eq_true_eq, Bool.and_eq_true, Bool.not_eq_true', Bool.and_eq_false_iff, beq_eq_false_iff_ne] at h2
    rcases h2 with (h2 | h2) | ⟨⟨h2, h3⟩, h4⟩
    · omega
    · exact .inl h2
    · refine .inr ⟨fun t ht hm => ?_, fun t ht hm => ?_, fun hk => ?_⟩
      · rw [ht] at h3; simp [hm] at h3
      · rw [ht] at h2; simp [hm] at h2
      · rcases h4 with h4 | h4
        · exact h4 hk.2
        · exact h4 hk.1

theorem anc_closed (hF : DrawFacts P ops) {S : Nat → Prop} (hS : ∀ i o, S i → ops[i]? = some o → ∀ ed ∈ o.after, Region.binds .any ed = true → S ed.on) :
    ∀ i j, i < ops.size → S i → isAnc (ancs ops.toList) j i = true → S j ∧ j < i := by
  intro i
  induction i using Nat.strongRecOn with
  | ind i ih =>
    intro j hi hSi ha
    obtain ⟨ed, he, hb, h⟩ := isAnc_step (o := ops[i]) (by simp [hi]) ha
    have hon := hF.back i _ (by simp [hi]) ed he hb
    have hSe := hS i _ hSi (by simp [hi]) ed he hb
    rcases h with rfl | h
    · exact ⟨hSe, hon⟩
    · obtain ⟨h1, h2⟩ := ih ed.on hon j (by omega) hSe h
      exact ⟨h1, by omega⟩

theorem anc_ready (hF : DrawFacts P ops) {S : Nat → Prop} (hS : ∀ i o, S i → ops[i]? = some o → ∀ ed ∈ o.after, Region.binds .any ed = true → S ed.on) {i : Nat} {o : Oper} (ho : ops[i]? = some o)
    (hr : ∀ ed ∈ o.after, Region.binds .any ed = true → S ed.on) {j : Nat} (ha : isAnc (ancs ops.toList) j i = true) : S j ∧ j < i := by
  have hi : i < ops.size := (Array.getElem?_eq_some_iff.1 ho).1
  obtain ⟨ed, he, hb, h⟩ := isAnc_step (o := o) (by simpa using ho) ha
  have hon := hF.back i _ ho ed he hb
  rcases h with rfl | h
  · exact ⟨hr ed he hb, hon⟩
  · obtain ⟨h1, h2⟩ := anc_closed hF hS ed.on j (by omega) (hr ed he hb) h
    exact ⟨h1, by omega⟩
end

/-! ### The trace -/

section
variable {K : Ctx} {r : Rec}

structure Trace (K : Ctx) (r : Rec) (ops : Array Oper) (nt : Nat) (E : Nat → Env) (H : Nat → AHeap) (V : Nat → Value) : Prop where
  op : ∀ i o, ops[i]? = some o → Region.wanted o (yieldedA ops (E i)) = true → evK K r o.op (E i) (H i) = some (V i, H (i + 1))
  off : ∀ i o, ops[i]? = some o → Region.wanted o (yieldedA ops (E i)) = false → V i = undef ∧ H (i + 1) = H i
  put : ∀ i o, ops[i]? = some o → putD nt (E i) o.dst (V i) = some (E (i + 1))

def tE (T : List TI) (eN : Env) (i : Nat) : Env := match T[i]? with | some t => t.e | none => eN
def tA (T : List TI) (AN : AHeap) (i : Nat) : AHeap := match T[i]? with | some t => t.A | none => AN
def tV (T : List TI) (i : Nat) : Value := match T[i]? with | some t => t.v | none => undef

theorem evTrace_cons (t : TI) (T : List TI) (eN : Env) (AN : AHeap) (i : Nat) : tE (t :: T) eN (i + 1) = tE T eN i ∧ tA (t :: T) AN (i + 1) = tA T AN i ∧ tV (t :: T) (i + 1) = tV T i := ⟨rfl, rfl, rfl⟩

theorem evTrace_sound {ops : Array Oper} {nt : Nat} : ∀ (rest : List Oper) (e : Env) (A : AHeap) (T : List TI) (eN : Env) (AN : AHeap), evTrace K r ops nt rest e A = some (T, eN, AN) →
    T.length = rest.length ∧ tE T eN 0 = e ∧ tA T AN 0 = A ∧ tE T eN rest.length = eN ∧ tA T AN rest.length = AN ∧
    (∀ i o, rest[i]? = some o → Region.wanted o (yieldedA ops (tE T eN i)) = true → evK K r o.op (tE T eN i) (tA T AN i) = some (tV T i, tA T AN (i + 1))) ∧
    (∀ i o, rest[i]? = some o → Region.wanted o (yieldedA ops (tE T eN i)) = false → tV T i = undef ∧ tA T AN (i + 1) = tA T AN i) ∧
    (∀ i o, rest[i]? = some o → putD nt (tE T eN i) o.dst (tV T i) = some (tE T eN (i + 1))) ∧
    (∀ i o t, rest[i]? = some o → T[i]? = some t → t.w = Region.wanted o (yieldedA ops (tE T eN i))) := by
  intro rest
  induction rest with
  | nil =>
    intro e A T eN AN h
    simp only [evTrace, Option.some.injEq, Prod.mk.injEq] at h
    obtain ⟨rfl, rfl, rfl⟩ := h
    refine ⟨rfl, rfl, rfl, rfl, rfl, ?_, ?_, ?_, ?_⟩ <;> intro i o <;> simp
  | cons o rest ih =>
    intro e A T eN AN h
    simp only [evTrace] at h
    split at h
    · rename_i hw
      split at h
      · rename_i v A1 hv
        split at h
        · rename_i e1 he1
          split at h
          · rename_i T1 eN1 AN1 ht
            simp only [Option.some.injEq, Prod.mk.injEq] at h
            obtain ⟨rfl, rfl, rfl⟩ := h
            obtain ⟨k0, k1, k2, k3, k4, k5, k6, k7, k8⟩ := ih e1 A1 T1 eN1 AN1 ht
            refine ⟨by simp [k0], rfl, rfl, k3, k4, ?_, ?_, ?_, ?_⟩
            · intro i o' ho hw'
              cases i with
              | zero =>
                simp only [List.getElem?_cons_zero, Option.some.injEq] at ho
                subst ho
                show evK K r o.op e A = some (v, tA T1 AN1 0)
                rw [k2]; exact hv
              | succ i => exact k5 i o' (by simpa using ho) hw'
            · intro i o' ho hw'
              cases i with
              | zero =>
                simp only [List.getElem?_cons_zero, Option.some.injEq] at ho
                subst ho
                have : Region.wanted o (yieldedA ops e) = false := hw'
                rw [this] at hw; cases hw
              | succ i => exact k6 i o' (by simpa using ho) hw'
            · intro i o' ho
              cases i with
              | zero =>
                simp only [List.getElem?_cons_zero, Option.some.injEq] at ho
                subst ho
                show putD nt e o.dst v = some (tE T1 eN1 0)
                rw [k1]; exact he1
              | succ i => exact k7 i o' (by simpa using ho)
            · intro i o' t ho hT
              cases i with
              | zero =>
                simp only [List.getElem?_cons_zero, Option.some.injEq] at ho hT
                subst ho; subst hT
                exact hw.symm
              | succ i => exact k8 i o' t (by simpa using ho) (by simpa using hT)
          · cases h
        · cases h
      · cases h
    · rename_i hw
      split at h
      · rename_i e1 he1
        split at h
        · rename_i T1 eN1 AN1 ht
          simp only [Option.some.injEq, Prod.mk.injEq] at h
          obtain ⟨rfl, rfl, rfl⟩ := h
          obtain ⟨k0, k1, k2, k3, k4, k5, k6, k7, k8⟩ := ih e1 A T1 eN1 AN1 ht
          refine ⟨by simp [k0], rfl, rfl, k3, k4, ?_, ?_, ?_, ?_⟩
          · intro i o' ho hw'
            cases i with
            | zero =>
              simp only [List.getElem?_cons_zero, Option.some.injEq] at ho
              subst ho
              exact absurd hw' hw
            | succ i => exact k5 i o' (by simpa using ho) hw'
          · intro i o' ho hw'
            cases i with
            | zero => exact ⟨rfl, k2⟩
            | succ i => exact k6 i o' (by simpa using ho) hw'
          · intro i o' ho
            cases i with
            | zero =>
              simp only [List.getElem?_cons_zero, Option.some.injEq] at ho
              subst ho
              show putD nt e o.dst undef = some (tE T1 eN1 0)
              rw [k1]; exact he1
            | succ i => exact k7 i o' (by simpa using ho)
          · intro i o' t ho hT
            cases i with
            | zero =>
              simp only [List.getElem?_cons_zero, Option.some.injEq] at ho hT
              subst ho; subst hT
              exact (Bool.eq_false_iff.2 hw).symm
            | succ i => exact k8 i o' t (by simpa using ho) (by simpa using hT)
        · cases h
      · cases h
end

section
variable {K : Ctx} {r : Rec} {ops : Array Oper} {nt : Nat} {E : Nat → Env} {H : Nat → AHeap} {V : Nat → Value}

theorem putD_at {nt : Nat} {e e' : Env} {d : Option Tmp} {v : Value} (h : putD nt e d v = some e') (t : Tmp) : e' t = (if d = some t then v else e t) ∧ (d = some t → t < nt) := by
  cases d with
  | none => simp only [putD, Option.some.injEq] at h; subst h; simp
  | some d =>
    simp only [putD] at h
    split at h
    · rename_i hd
      simp only [Option.some.injEq] at h
      subst h
      refine ⟨?_, fun e => by cases e; exact hd⟩
      unfold Env.put
      by_cases hc : t = d
      · simp [hc]
      · rw [if_neg hc, if_neg (by intro e; cases e; exact hc rfl)]
    · cases h

theorem evK_same {o : Op} {e : Env} {A A' : AHeap} {v : Value} (h : evK K r o e A = some (v, A')) (hk : kindS K.P o ≠ 3) :
    A' = A ∧ o.operands.toList.all okOpd = true ∧ ((kindS K.P o = 1 ∧ aPure K.P o (opv e) = some v) ∨ (kindS K.P o ≠ 1 ∧ evPR K.P o e A = some v)) := by
  unfold evK at h
  rw [if_neg hk] at h
  split at h
  · rename_i hok
    split at h
    · rename_i h1
      split at h
      · rename_i u hu
        simp only [Option.some.injEq, Prod.mk.injEq] at h
        obtain ⟨rfl, rfl⟩ := h
        exact ⟨rfl, hok, .inl ⟨h1, hu⟩⟩
      · cases h
    · rename_i h1
      split at h
      · rename_i u hu
        simp only [Option.some.injEq, Prod.mk.injEq] at h
        obtain ⟨rfl, rfl⟩ := h
        exact ⟨rfl, hok, .inr ⟨h1, hu⟩⟩
      · cases h
  · cases h

theorem evPR_or {P : Program} {o : Op} {e : Env} {A : AHeap} {v : Value} (h : evPR P o e A = some v) : aPure P o (opv e) = some v ∨ aRead P A o (opv e) = some v := by
  unfold evPR at h
  split at h
  · rename_i u hu; simp only [Option.some.injEq] at h; subst h; exact .inl hu
  · exact .inr h

theorem Trace.next (hT : Trace K r ops nt E H V) {i : Nat} {o : Oper} (ho : ops[i]? = some o) (hk : kindS K.P o.op ≠ 3) : H (i + 1) = H i := by
  cases hw : Region.wanted o (yieldedA ops (E i)) with
  | true => exact (evK_same (hT.op i o ho hw) hk).1
  | false => exact (hT.off i o ho hw).2

theorem Trace.constH (hT : Trace K r ops nt E H V) : ∀ (d i : Nat), i + d ≤ ops.size → (∀ j o, ops[j]? = some o → i ≤ j → j < i + d → kindS K.P o.op ≠ 3) → H (i + d) = H i := by
  intro d
  induction d with
  | zero => intro i _ _; rfl
  | succ d ih =>
    intro i hi h
    have hlt : i + d < ops.size := by omega
    rw [← Nat.add_assoc, hT.next (o := ops[i + d]) (by simp [hlt]) (h (i + d) ops[i + d] (by simp [hlt]) (by omega) (by omega))]
    exact ih i (by omega) fun j o ho h1 h2 => h j o ho h1 (by omega)

theorem Trace.constE (hT : Trace K r ops nt E H V) {t : Tmp} : ∀ (d i : Nat), i + d ≤ ops.size → (∀ j o, ops[j]? = some o → i ≤ j → j < i + d → o.dst ≠ some t) → E (i + d) t = E i t := by
  intro d
  induction d with
  | zero => intro i _ _; rfl
  | succ d ih =>
    intro i hi h
    have hlt : i + d < ops.size := by omega
    rw [← Nat.add_assoc, (putD_at (hT.put (i + d) ops[i + d] (by simp [hlt])) t).1, if_neg (h (i + d) ops[i + d] (by simp [hlt]) (by omega) (by omega))]
    exact ih i (by omega) fun j o ho h1 h2 => h j o ho h1 (by omega)

structure Inv (K : Ctx) (ops : Array Oper) (nt : Nat) (E : Nat → Env) (H : Nat → AHeap) (lo : Nat) (m0 : Map) (w0 : World) (rd : Option Nat) (S : Nat → Prop) (m : Map) (p : Nat) (a : Act) (w : World) : Prop where
  closed : ∀ i o, S i → ops[i]? = some o → ∀ ed ∈ o.after, Region.binds .any ed = true → S ed.on
  size : a.tmps.size = nt
  env : ∀ t i, i ≤ ops.size → (∀ j o, ops[j]? = some o → o.dst = some t → (S j ↔ j < i)) → VRel m (E i t) (a.tmps.getD t undef)
  ple : p ≤ ops.size
  pos : ∀ j o, ops[j]? = some o → kindS K.P o.op = 3 → (S j ↔ j < p)
  sim : Sim K.P m (H p) w
  step : Step m0 (H 0) w0 m (H p) w
  marks : Marks lo m w a.defers
  rd : RdOK w rd
  low : lo ≤ w.heap.size

variable {lo : Nat} {m0 : Map} {w0 : World} {rd : Option Nat}

/-- What an operation that is ready names is what it was in the text's order. -/
theorem Inv.names {S : Nat → Prop} {m : Map} {p : Nat} {a : Act} {w : World} (h : Inv K ops nt E H lo m0 w0 rd S m p a w) (hF : DrawFacts K.P ops) {i : Nat} {o : Oper} (ho : ops[i]? = some o)
    (hr : ∀ ed ∈ o.after, Region.binds .any ed = true → S ed.on) (hn : ¬ S i) {t : Tmp} (ht : t ∈ namesOf ops o) : VRel m (E i t) (a.tmps.getD t undef) := by
  have hi : i < ops.size := (Array.getElem?_eq_some_iff.1 ho).1
  refine h.env t i (by omega) fun j oj hj hd => ?_
  have hjs : j < ops.size := (Array.getElem?_eq_some_iff.1 hj).1
  rcases Nat.lt_trichotomy j i with hlt | rfl | hgt
  · refine ⟨fun _ => hlt, fun _ => ?_⟩
    rcases hF.apart i j o oj ho hj hlt with ha | ⟨_, h2, _⟩
    · exact (anc_ready hF h.closed ho hr ha).1
    · exact absurd ht (h2 t hd)
  · exact ⟨fun hs => absurd hs hn, fun hlt => absurd hlt (by omega)⟩
  · refine ⟨fun hs => ?_, fun hlt => absurd hlt (by omega)⟩
    rcases hF.apart j i oj o hj ho hgt with ha | ⟨h1, _, _⟩
    · exact absurd (anc_closed hF h.closed j i hjs hs ha).1 hn
    · exact absurd ht (h1 t hd)

theorem Inv.next {S : Nat → Prop} {m : Map} {p : Nat} {a : Act} {w : World} (h : Inv K ops nt E H lo m0 w0 rd S m p a w) (hF : DrawFacts K.P ops) (hT : Trace K r ops nt E H V) {i : Nat} {o : Oper}
    (ho : ops[i]? = some o) (hr : ∀ ed ∈ o.after, Region.binds .any ed = true → S ed.on) (hn : ¬ S i) {m' : Map} {p' : Nat} {w' : World} {v' : Value} (hv : VRel m' (V i) v')
    (hsim : Sim K.P m' (H p') w') (hst : Step m (H p) w m' (H p') w') (hp' : p' ≤ ops.size) (hpos : ∀ j oj, ops[j]? = some oj → kindS K.P oj.op = 3 → ((S j ∨ j = i) ↔ j < p')) :
    Inv K ops nt E H lo m0 w0 rd (fun j => S j ∨ j = i) m' p' (a.put o.dst v') w' := by
  have hi : i < ops.size := (Array.getElem?_eq_some_iff.1 ho).1
  refine ⟨?_, ?_, ?_, hp', hpos, hsim, h.step.trans hst, ?_, h.rd.step hst, Nat.le_trans h.low hst.size⟩
  · rintro j oj (hj | rfl) hoj ed he hb
    · exact .inl (h.closed j oj hj hoj ed he hb)
    · rw [ho] at hoj; cases hoj; exact .inl (hr ed he hb)
  · have := h.size
    cases o.dst with
    | none => exact this
    | some d => simp [Act.put, this]
  · intro t i' hi' hS
    have hput := putD_at (hT.put i o ho) t
    by_cases hd : o.dst = some t
    · have hlt : i < i' := (hS i o ho hd).1 (.inr rfl)
      have hc := hT.constE (t := t) (i' - (i + 1)) (i + 1) (by omega) (by
        intro j oj hj h1 h2 hdj
        have hjs : j < ops.size := (Array.getElem?_eq_some_iff.1 hj).1
        rcases (hS j oj hj hdj).2 (by omega) with hsj | e
        · rcases hF.apart j i oj o hj ho (by omega) with ha | ⟨k1, _, _⟩
          · exact hn (anc_closed hF h.closed j i hjs hsj ha).1
          · exact k1 t hdj (by simp [namesOf, hd])
        · omega)
      rw [show i + 1 + (i' - (i + 1)) = i' by omega] at hc
      rw [hc, hput.1, if_pos hd, hd]
      show VRel m' (V i) ((a.tmps.setIfInBounds t v').getD t undef)
      rw [getD_set _ _ _ _ (by rw [h.size]; exact hput.2 hd), if_pos rfl]
      exact hv
    · have := h.env t i' hi' fun j oj hj hdj => by
        have hne : j ≠ i := by rintro rfl; rw [ho] at hj; cases hj; exact hd hdj
        rw [← hS j oj hj hdj]
        simp [hne]
      have h2 := this.mono hst.mono
      cases hdd : o.dst with
      | none => exact h2
      | some d =>
        show VRel m' (E i' t) ((a.tmps.setIfInBounds d v').getD t undef)
        have hput' := (putD_at (hT.put i o ho) d).2 hdd
        rw [getD_set _ _ _ _ (by rw [h.size]; exact hput'), if_neg (by rintro rfl; exact hd hdd)]
        exact h2
  · rw [put_defers]; exact h.marks.step hst

/-- Where a reading operation stands among those that turn memory. -/
theorem Inv.read {S : Nat → Prop} {m : Map} {p : Nat} {a : Act} {w : World} (h : Inv K ops nt E H lo m0 w0 rd S m p a w) (hF : DrawFacts K.P ops) (hT : Trace K r ops nt E H V)
    (stab : ∀ i q oi oq, ops[i]? = some oi → ops[q]? = some oq → kindS K.P oi.op = 2 → kindS K.P oq.op = 3 → isAnc (ancs ops.toList) q i = false → isAnc (ancs ops.toList) i q = false →
      Region.wanted oi (yieldedA ops (E i)) = true → evPR K.P oi.op (E i) (if q < i then H q else H (q + 1)) = some (V i)) {i : Nat} {o : Oper}
    (ho : ops[i]? = some o) (hr : ∀ ed ∈ o.after, Region.binds .any ed = true → S ed.on) (hn : ¬ S i) (hk : kindS K.P o.op = 2) (hw : Region.wanted o (yieldedA ops (E i)) = true) :
    evPR K.P o.op (E i) (H p) = some (V i) := by
  have hi : i < ops.size := (Array.getElem?_eq_some_iff.1 ho).1
  have hbase : evPR K.P o.op (E i) (H i) = some (V i) := by
    obtain ⟨_, _, h1 | h1⟩ := evK_same (hT.op i o ho hw) (by omega)
    · omega
    · exact h1.2
  have hback : ∀ j q, j < ops.size → isAnc (ancs ops.toList) q j = true → q < j := fun j q hj ha => (anc_closed hF (S := fun _ => True) (fun _ _ _ _ _ _ _ => trivial) j q hj trivial ha).2
  rcases Nat.lt_trichotomy p i with hlt | rfl | hgt
  · by_cases hex : ∃ d, p + d < i ∧ ∃ oq, ops[p + d]? = some oq ∧ kindS K.P oq.op = 3
    · -- the first of them
      have hmin : ∃ d, (p + d < i ∧ ∃ oq, ops[p + d]? = some oq ∧ kindS K.P oq.op = 3) ∧ ∀ d' < d, ¬ (p + d' < i ∧ ∃ oq, ops[p + d']? = some oq ∧ kindS K.P oq.op = 3) := by
        obtain ⟨d, hd⟩ := hex
        induction d using Nat.strongRecOn with
        | ind d ih =>
          by_cases hc : ∃ d' < d, p + d' < i ∧ ∃ oq, ops[p + d']? = some oq ∧ kindS K.P oq.op = 3
          · obtain ⟨d', h1, h2⟩ := hc; exact ih d' h1 h2
          · exact ⟨d, hd, fun d' h1 h2 => hc ⟨d', h1, h2⟩⟩
      obtain ⟨d, ⟨h1, oq, h2, h3⟩, h4⟩ := hmin
      have hH := hT.constH d p (by omega) (by
        intro j oj hj k1 k2 k3
        exact h4 (j - p) (by omega) ⟨by omega, oj, by rw [show p + (j - p) = j by omega]; exact hj, k3⟩)
      have hnq : ¬ S (p + d) := fun hs => by have := (h.pos _ oq h2 h3).1 hs; omega
      have := stab i (p + d) o oq ho h2 hk h3 ?_ ?_ hw
      · rw [if_pos h1, hH] at this; exact this
      · cases ha : isAnc (ancs ops.toList) (p + d) i with
        | false => rfl
        | true => exact absurd (anc_ready hF h.closed ho hr ha).1 hnq
      · cases ha : isAnc (ancs ops.toList) i (p + d) with
        | false => rfl
        | true => have := hback (p + d) i (by omega) ha; omega
    · have hH := hT.constH (i - p) p (by omega) (by
        intro j oj hj k1 k2 k3
        exact hex ⟨j - p, by omega, oj, by rw [show p + (j - p) = j by omega]; exact hj, k3⟩)
      rw [show p + (i - p) = i by omega] at hH
      rw [← hH]; exact hbase
  · exact hbase
  · by_cases hex : ∃ d, d < p - i ∧ ∃ oq, ops[p - 1 - d]? = some oq ∧ kindS K.P oq.op = 3
    · have hmin : ∃ d, (d < p - i ∧ ∃ oq, ops[p - 1 - d]? = some oq ∧ kindS K.P oq.op = 3) ∧ ∀ d' < d, ¬ (d' < p - i ∧ ∃ oq, ops[p - 1 - d']? = some oq ∧ kindS K.P oq.op = 3) := by
        obtain ⟨d, hd⟩ := hex
        induction d using Nat.strongRecOn with
        | ind d ih =>
          by_cases hc : ∃ d' < d, d' < p - i ∧ ∃ oq, ops[p - 1 - d']? = some oq ∧ kindS K.P oq.op = 3
          · obtain ⟨d', h1, h2⟩ := hc; exact ih d' h1 h2
          · exact ⟨d, hd, fun d' h1 h2 => hc ⟨d', h1, h2⟩⟩
      obtain ⟨d, ⟨h1, oq, h2, h3⟩, h4⟩ := hmin
      have hple := h.ple
      have hH := hT.constH d (p - d) (by omega) (by
        intro j oj hj k1 k2 k3
        exact h4 (p - 1 - j) (by omega) ⟨by omega, oj, by rw [show p - 1 - (p - 1 - j) = j by omega]; exact hj, k3⟩)
      rw [show p - d + d = p by omega] at hH
      have hsq : S (p - 1 - d) := (h.pos _ oq h2 h3).2 (by omega)
      have hne : p - 1 - d ≠ i := by intro e; rw [e] at hsq; exact hn hsq
      have := stab i (p - 1 - d) o oq ho h2 hk h3 ?_ ?_ hw
      · rw [if_neg (by omega), show p - 1 - d + 1 = p - d by omega, ← hH] at this; exact this
      · cases ha : isAnc (ancs ops.toList) (p - 1 - d) i with
        | false => rfl
        | true => have := hback i _ hi ha; omega
      · cases ha : isAnc (ancs ops.toList) i (p - 1 - d) with
        | false => rfl
        | true => exact absurd (anc_closed hF h.closed (p - 1 - d) i (by omega) hsq ha).1 hn
    · have hple := h.ple
      have hH := hT.constH (p - i) i (by omega) (by
        intro j oj hj k1 k2 k3
        exact hex ⟨p - 1 - j, by omega, oj, by rw [show p - 1 - (p - 1 - j) = j by omega]; exact hj, k3⟩)
      rw [show i + (p - i) = p by omega] at hH
      rw [hH]; exact hbase

theorem filter_lt {p q : Nat → Bool} (hpq : ∀ j, q j = true → p j = true) : ∀ (l : List Nat) (i : Nat), i ∈ l → p i = true → q i = false → (l.filter q).length < (l.filter p).length := by
  have hle : ∀ l : List Nat, (l.filter q).length ≤ (l.filter p).length := by
    intro l
    induction l with
    | nil => simp
    | cons x l ih =>
      cases hq : q x with
      | true => simp [List.filter_cons, hq, hpq x hq]; exact ih
      | false => cases hp : p x <;> simp [List.filter_cons, hq, hp] <;> omega
  intro l
  induction l with
  | nil => intro i h; simp at h
  | cons x l ih =>
    intro i hi hp hq
    rcases List.mem_cons.1 hi with rfl | hi
    · have := hle l
      simp [List.filter_cons, hq, hp]; omega
    · have := ih i hi hp hq
      cases hq : q x with
      | true => simp [List.filter_cons, hq, hpq x hq]; exact this
      | false => cases hp : p x <;> simp [List.filter_cons, hq, hp] <;> omega

def left (ops : Array Oper) (listed : Array Bool) : Nat := ((List.range ops.size).filter fun i => !listed.getD i false).length

theorem getD_tf {listed : Array Bool} {i : Nat} (h : i < listed.size) : listed.getD i true = listed.getD i false := by
  simp only [Array.getD_eq_getD_getElem?, Array.getElem?_eq_getElem h, Option.getD_some]

theorem draw_any (hK : CtxOK K) (hr : RecOK K r) (hF : DrawFacts K.P ops) (hT : Trace K r ops nt E H V)
    (stab : ∀ i q oi oq, ops[i]? = some oi → ops[q]? = some oq → kindS K.P oi.op = 2 → kindS K.P oq.op = 3 → isAnc (ancs ops.toList) q i = false → isAnc (ancs ops.toList) i q = false →
      Region.wanted oi (yieldedA ops (E i)) = true → evPR K.P oi.op (E i) (if q < i then H q else H (q + 1)) = some (V i)) {Q : Exit → Act → World → Prop}
    (hQ : ∀ m' a' W', St K.P lo m' nt (E ops.size) (H ops.size) a' W' rd → Step m0 (H 0) w0 m' (H ops.size) W' → Q .normal a' W') :
    ∀ (fuel : Nat) (listed : Array Bool) (S : Nat → Prop) (m : Map) (p : Nat) (a : Act) (w : World), listed.size = ops.size → (∀ i, S i ↔ listed.getD i false = true) → left ops listed ≤ fuel → Inv K ops nt E H lo m0 w0 rd S m p a w →
    wpAnyIn (FW rd) 0 K.P .any ops Q fuel listed a w := by
  intro fuel
  have final : ∀ (listed : Array Bool) (S : Nat → Prop) (m : Map) (p : Nat) (a : Act) (w : World), listed.size = ops.size → (∀ i, S i ↔ listed.getD i false = true) → Inv K ops nt E H lo m0 w0 rd S m p a w →
      Region.ready .any ops listed = [] → Q .normal a w := by
    intro listed S m p a w hsz hS hI hre
    have hall : ∀ i, i < ops.size → S i := by
      intro i
      induction i using Nat.strongRecOn with
      | ind i ih =>
        intro hi
        refine Classical.byContradiction fun hn => ?_
        have : i ∈ Region.ready .any ops listed := by
          rw [mem_ready]
          refine ⟨?_, ops[i], by simp [hi], fun ed he hb => ?_⟩
          · rw [getD_tf (by omega)]
            cases hc : listed.getD i false with
            | false => rfl
            | true => exact absurd ((hS i).2 hc) hn
          · have hon := hF.back i _ (by simp [hi]) ed he hb
            exact (hS ed.on).1 (ih ed.on hon (by omega))
        rw [hre] at this
        simp at this
    have hH := hT.constH (ops.size - p) p (by have := hI.ple; omega) (by
      intro j oj hj k1 k2 k3
      have hjs : j < ops.size := (Array.getElem?_eq_some_iff.1 hj).1
      have := (hI.pos j oj hj k3).1 (hall j hjs)
      omega)
    rw [show p + (ops.size - p) = ops.size by have := hI.ple; omega] at hH
    refine hQ m a w ⟨by rw [hH]; exact hI.sim, ⟨hI.size, fun t => ?_⟩, hI.marks, hI.rd, hI.low⟩ (by rw [hH]; exact hI.step)
    refine hI.env t ops.size (Nat.le_refl _) fun j o hj _ => ?_
    have hjs : j < ops.size := (Array.getElem?_eq_some_iff.1 hj).1
    exact ⟨fun _ => hjs, fun _ => hall j hjs⟩
  induction fuel with
  | zero =>
    intro listed S m p a w hsz hS hl hI
    have hre : Region.ready .any ops listed = [] := by
      refine List.eq_nil_iff_forall_not_mem.2 fun i hi => ?_
      obtain ⟨h1, o, ho, _⟩ := mem_ready.1 hi
      have hi' : i < ops.size := (Array.getElem?_eq_some_iff.1 ho).1
      rw [getD_tf (by omega)] at h1
      have : (List.range ops.size).filter (fun i => !listed.getD i false) = [] := List.eq_nil_of_length_eq_zero (by unfold left at hl; omega)
      have hm : i ∈ (List.range ops.size).filter (fun i => !listed.getD i false) := by
        rw [List.mem_filter]
        exact ⟨List.mem_range.2 hi', by rw [h1]; rfl⟩
      rw [this] at hm
      simp at hm
    exact ⟨hre, final listed S m p a w hsz hS hI hre⟩
  | succ fuel ih =>
    intro listed S m p a w hsz hS hl hI
    refine ⟨final listed S m p a w hsz hS hI, fun i hi => ?_⟩
    obtain ⟨h1, o, ho, h2⟩ := mem_ready.1 hi
    have hi' : i < ops.size := (Array.getElem?_eq_some_iff.1 ho).1
    rw [getD_tf (by omega)] at h1
    have hn : ¬ S i := fun hs => by rw [(hS i).1 hs] at h1; cases h1
    have hrd : ∀ ed ∈ o.after, Region.binds .any ed = true → S ed.on := fun ed he hb => (hS _).2 (h2 ed he hb)
    have hset : ∀ j, (S j ∨ j = i) ↔ (listed.setIfInBounds i true).getD j false = true := by
      intro j
      by_cases hji : j = i
      · subst hji
        simp [hsz, hi']
      · rw [getD_set_ne false (Ne.symm hji), ← hS j]
        simp [hji]
    have hlt : left ops (listed.setIfInBounds i true) ≤ fuel := by
      have : left ops (listed.setIfInBounds i true) < left ops listed := by
        refine filter_lt (fun j hj => ?_) _ i (List.mem_range.2 hi') (by rw [h1]; rfl) ?_
        · cases hc : listed.getD j false with
          | false => rfl
          | true => rw [getD_set_true hc] at hj; cases hj
        · rw [(hset i).1 (.inr rfl)]; rfl
      omega
    have hnames := fun t ht => hI.names hF ho hrd hn (t := t) ht
    have hwant : Region.wanted o (yielded ops a.tmps) = Region.wanted o (yieldedA ops (E i)) := by
      unfold Region.wanted
      cases hg : o.guard with
      | none => rfl
      | some g =>
        obtain ⟨j, want⟩ := g
        simp only
        congr 1
        unfold yielded yieldedA
        cases hd : (ops[j]?).bind (·.dst) with
        | none => rfl
        | some d =>
          simp only [Option.bind_some]
          have hv := hnames d (by simp [namesOf, hg, hd])
          rw [Array.getD_eq_getD_getElem?] at hv
          cases ht : a.tmps[d]? with
          | none =>
            rw [ht] at hv
            simp only [Option.getD_none] at hv
            generalize E i d = u at hv
            cases hv
            rfl
          | some v =>
            rw [ht] at hv
            simp only [Option.getD_some] at hv
            generalize E i d = u at hv
            cases hv <;> rfl
    have hposK : kindS K.P o.op ≠ 3 → ∀ j oj, ops[j]? = some oj → kindS K.P oj.op = 3 → ((S j ∨ j = i) ↔ j < p) := by
      intro hk j oj hj hkj
      rw [← hI.pos j oj hj hkj]
      have : j ≠ i := by rintro rfl; rw [ho] at hj; cases hj; exact hk hkj
      simp [this]
    -- what turns memory stands in the text's order
    have hposE : kindS K.P o.op = 3 → H p = H i ∧ ∀ j oj, ops[j]? = some oj → kindS K.P oj.op = 3 → ((S j ∨ j = i) ↔ j < i + 1) := by
      intro hk
      have hS3 : ∀ j oj, ops[j]? = some oj → kindS K.P oj.op = 3 → (S j ↔ j < i) := by
        intro j oj hj hkj
        have hjs : j < ops.size := (Array.getElem?_eq_some_iff.1 hj).1
        rcases Nat.lt_trichotomy j i with hlt | rfl | hgt
        · refine ⟨fun _ => hlt, fun _ => ?_⟩
          rcases hF.apart i j o oj ho hj hlt with ha | ⟨_, _, h3⟩
          · exact (anc_ready hF hI.closed ho hrd ha).1
          · exact absurd ⟨hk, hkj⟩ h3
        · exact ⟨fun hs => absurd hs hn, fun h => absurd h (by omega)⟩
        · refine ⟨fun hs => ?_, fun h => absurd h (by omega)⟩
          rcases hF.apart j i oj o hj ho hgt with ha | ⟨_, _, h3⟩
          · exact absurd (anc_closed hF hI.closed j i hjs hs ha).1 hn
          · exact absurd ⟨hkj, hk⟩ h3
      have hple := hI.ple
      refine ⟨?_, fun j oj hj hkj => ?_⟩
      · rcases Nat.lt_or_ge i p with hlt | hge
        · exact absurd ((hI.pos i o ho hk).2 hlt) hn
        · have := hT.constH (i - p) p (by omega) (by
            intro j oj hj k1 k2 k3
            have h3 := (hS3 j oj hj k3).2 (by omega)
            have h4 := (hI.pos j oj hj k3).1 h3
            omega)
          rw [show p + (i - p) = i by omega] at this
          exact this.symm
      · rw [hS3 j oj hj hkj]; omega
    unfold wpOpIn
    rw [ho]
    simp only
    rw [hwant]
    have hrelN : ∀ x ∈ o.op.operands.toList, okOpd x = true → VRel m (opv (E i) x) (a.eval x) := by
      intro x hx hok
      cases x with
      | tmp t => exact hnames t (by simp only [namesOf, List.mem_append, List.mem_filterMap]; exact .inl (.inr ⟨.tmp t, hx, rfl⟩))
      | const v => exact VRel.flat hok
      | global g => simp [okOpd] at hok
      | func f => exact VRel.flat (v := .func (.func f) #[] #[]) rfl
    split
    · rename_i hw
      by_cases hk : kindS K.P o.op = 3
      · obtain ⟨hH, hpos⟩ := hposE hk
        have hev : evOp K r o.op (E i) (H i) = some (V i, H (i + 1)) := by
          have := hT.op i o ho hw
          unfold evK at this
          rw [if_pos hk] at this
          exact this
        have hok := evOp_ok hev
        refine sim_op' hK hr hev (hH ▸ hI.sim) (fun x hx => hrelN x hx ((List.all_eq_true.1 hok) x hx)) rd ?_
        intro m' v' W' hv hS' hst
        refine ih _ (fun j => S j ∨ j = i) m' (i + 1) _ W' (by simp [hsz]) hset hlt (hI.next hF hT ho hrd hn hv hS' (by rw [hH]; exact hst) (by omega) hpos)
      · obtain ⟨hsame, hok, hval⟩ := evK_same (hT.op i o ho hw) hk
        have hval' : aPure K.P o.op (opv (E i)) = some (V i) ∨ aRead K.P (H p) o.op (opv (E i)) = some (V i) := by
          rcases hval with ⟨_, h3⟩ | ⟨h3, h4⟩
          · exact .inl h3
          · have hk2 : kindS K.P o.op = 2 := by
              have : kindS K.P o.op = 1 ∨ kindS K.P o.op = 2 ∨ kindS K.P o.op = 3 := by
                unfold kindS; split <;> first | simp | (split <;> simp)
              rcases this with h | h | h
              · exact absurd h h3
              · exact h
              · exact absurd h hk
            exact evPR_or (hI.read hF hT stab ho hrd hn hk2 hw)
        refine sim_pr hval' hI.sim (fun x hx => hrelN x hx ((List.all_eq_true.1 hok) x hx)) rd ?_
        intro v' hv
        exact ih _ (fun j => S j ∨ j = i) m p _ w (by simp [hsz]) hset hlt (hI.next hF hT ho hrd hn hv hI.sim (Step.refl _ _ _) hI.ple (hposK hk))
    · rename_i hw
      have hwf : Region.wanted o (yieldedA ops (E i)) = false := Bool.eq_false_iff.2 hw
      obtain ⟨hV, hH1⟩ := hT.off i o ho hwf
      refine ⟨fun _ _ => trivial, ?_⟩
      have hv : VRel m (V i) undef := by rw [hV]; exact undef_rel m
      by_cases hk : kindS K.P o.op = 3
      · obtain ⟨hH, hpos⟩ := hposE hk
        have hHH : H (i + 1) = H p := by rw [hH1, hH]
        exact ih _ (fun j => S j ∨ j = i) m (i + 1) _ w (by simp [hsz]) hset hlt (hI.next hF hT ho hrd hn hv (by rw [hHH]; exact hI.sim) (by rw [hHH]; exact Step.refl _ _ _) (by omega) hpos)
      · exact ih _ (fun j => S j ∨ j = i) m p _ w (by simp [hsz]) hset hlt (hI.next hF hT ho hrd hn hv hI.sim (Step.refl _ _ _) hI.ple (hposK hk))

theorem sim_draw (hK : CtxOK K) (hr : RecOK K r) {ops : Array Oper} {nt : Nat} {e : Env} {A : AHeap} {e' : Env} {A' : AHeap} (h : evDraw K r ops nt e A = some (e', A')) (id lo : Nat) (m : Map) (a : Act) (W : World)
    (rd : Option Nat) (Q : Exit → Act → World → Prop) (hst : St K.P lo m nt e A a W rd) (hQ : ∀ m' a' W', St K.P lo m' nt e' A' a' W' rd → Step m A W m' A' W' → Q .normal a' W') :
    (Code.region id ops true).wpIn (FW rd) 0 K.P Q a W := by
  unfold evDraw at h
  split at h
  · rename_i hd
    split at h
    · rename_i T eN AN ht
      split at h
      · rename_i hstab
        simp only [Option.some.injEq, Prod.mk.injEq] at h
        obtain ⟨rfl, rfl⟩ := h
        obtain ⟨k0, k1, k2, k3, k4, k5, k6, k7, k8⟩ := evTrace_sound _ _ _ _ _ _ ht
        rw [Array.length_toList] at k3 k4
        have hF := drawOk_facts hd
        have hT : Trace K r ops nt (tE T eN) (tA T AN) (tV T) := ⟨fun i o ho => k5 i o (by simpa using ho), fun i o ho => k6 i o (by simpa using ho), fun i o ho => k7 i o (by simpa using ho)⟩
        refine wpIn_region_any hK.follows ?_
        refine draw_any (lo := lo) (m0 := m) (w0 := W) (rd := rd) hK hr hF hT ?_ ?_ ops.size _ (fun i => (Array.replicate ops.size false).getD i false = true) m 0 a _ (by simp) (fun _ => Iff.rfl) ?_ ?_
        · intro i q oi oq hi hq hki hkq ha1 ha2 hw
          have hzi : (oi, i) ∈ ops.toList.zipIdx := by rw [List.mem_zipIdx_iff_getElem?]; simpa using hi
          have hzq : (oq, q) ∈ ops.toList.zipIdx := by rw [List.mem_zipIdx_iff_getElem?]; simpa using hq
          have hmem : (i, q) ∈ openPairs K.P ops := by
            unfold openPairs
            simp only [List.mem_flatMap]
            refine ⟨_, hzi, ?_⟩
            simp only [hki, beq_self_eq_true, if_true, List.mem_filterMap]
            exact ⟨_, hzq, by simp [hkq, ha1, ha2]⟩
          have hs := (List.all_eq_true.1 hstab) _ hmem
          unfold stable at hs
          have hlt : i < T.length := by rw [k0, Array.length_toList]; exact (Array.getElem?_eq_some_iff.1 hi).1
          have hT1 : T[i]? = some T[i] := List.getElem?_eq_getElem hlt
          have hqlt : q < T.length := by rw [k0, Array.length_toList]; exact (Array.getElem?_eq_some_iff.1 hq).1
          simp only [hT1, hi] at hs
          have hw1 := k8 i oi T[i] (by simpa using hi) hT1
          rw [hw] at hw1
          rw [if_pos hw1] at hs
          have hE : T[i].e = tE T eN i := by simp [tE, hT1]
          have hV : T[i].v = tV T i := by simp [tV, hT1]
          have hH : heapAt T AN i q = some (if q < i then tA T AN q else tA T AN (q + 1)) := by
            unfold heapAt
            split
            · rw [List.getElem?_eq_getElem hqlt]; simp [tA, List.getElem?_eq_getElem hqlt]
            · unfold tA; cases T[q + 1]? <;> rfl
          rw [hH, hE, hV] at hs
          simp only at hs
          split at hs
          · rename_i v hv
            rw [hv, hK.same _ _ hs]
          · cases hs
        · intro m' a' W' h1 h2
          rw [k3, k4] at h1
          rw [k2, k4] at h2
          exact hQ m' a' W' h1 h2
        · unfold left
          exact Nat.le_trans (List.length_filter_le _ _) (by simp)
        · have hW := hst.sim.drew (W.drawn + 1)
          have hrep : ∀ j, (Array.replicate ops.size false).getD j false = false := by
            intro j
            rw [Array.getD_eq_getD_getElem?, Array.getElem?_replicate]
            split <;> rfl
          refine ⟨?_, hst.env.size, ?_, Nat.zero_le _, ?_, by rw [k2]; exact hW, by rw [k2]; exact (Step.refl m A W).drew _, hst.marks.drew _, hst.rd, hst.low⟩
          · intro i o hi; rw [hrep] at hi; cases hi
          · intro t i hi hS
            have hz := hT.constE (t := t) i 0 (by omega) (by
              intro j o hj _ h2 hdj
              have := (hS j o hj hdj).2 (by omega)
              rw [hrep] at this; cases this)
            rw [Nat.zero_add, k1] at hz
            rw [hz]
            exact hst.env.val t
          · intro j o hj _; rw [hrep]; simp
      · cases h
    · cases h
  · cases h
end
end Go.Sh
