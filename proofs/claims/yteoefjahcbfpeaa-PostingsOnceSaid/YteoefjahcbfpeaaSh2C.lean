/- Shadow, part 28: strings cut, bytes made strings, builders; whatever else comes by its value. -/
import Derived.Test.YteoefjahcbfpeaaSh2B
namespace Go.Sh
open Go

theorem toList_loop (s : ByteArray) : ∀ (k i : Nat) (r : List UInt8), s.size - i = k → ByteArray.toList.loop s i r = r.reverse ++ (bl s).drop i
  | 0, i, r, h => by
    rw [ByteArray.toList.loop, if_neg (by omega), List.drop_of_length_le (by rw [← bl_len]; omega), List.append_nil]
  | k + 1, i, r, h => by
    have hi : i < s.size := by omega
    have hg : s.get! i = (bl s)[i]'(by rw [← bl_len]; exact hi) := by
      show s.data[i]! = _
      rw [getElem!_pos s.data i hi]
      rfl
    rw [ByteArray.toList.loop, if_pos hi, toList_loop s k (i + 1) _ (by omega), hg, List.reverse_cons, List.append_assoc, List.drop_eq_getElem_cons (i := i) (l := bl s) (by rw [← bl_len]; exact hi)]
    rfl
theorem toList_bl (s : ByteArray) : s.toList = bl s := by
  unfold ByteArray.toList
  rw [toList_loop s s.size 0 [] (by omega)]
  simp

section
variable {K : Ctx} {e : Env} {A : AHeap} {Q : Value → AHeap → Prop}

theorem OpW_by {o : Op} {v : Value} {A' : AHeap} (h : isCallV o = false) (hok : o.operands.toList.all okOpd = true) (hv : evB K.P o (opv e) A = some (v, A')) (hq : Q v A') : OpW K o e A Q :=
  (OpW_b h).2 ⟨hok, v, A', hv, hq⟩

theorem evB_read {P : Program} {o : Op} {ρ : Operand → Value} {v : Value} (h1 : aPure P o ρ = none) (h2 : aRead P A o ρ = some v) : evB P o ρ A = some (v, A) := by simp [evB, h1, h2]
theorem evB_pure {P : Program} {o : Op} {ρ : Operand → Value} {v : Value} (h1 : aPure P o ρ = some v) : evB P o ρ A = some (v, A) := by simp [evB, h1]
theorem evB_eff {P : Program} {o : Op} {ρ : Operand → Value} {p : Value × AHeap} (h1 : aPure P o ρ = none) (h2 : aRead P A o ρ = none) (h3 : aEff P A o ρ = some p) : evB P o ρ A = some p := by simp [evB, h1, h2, h3]

theorem OpW_sliceStr {t : TypeId} (ht : K.P.underlying t = some .string) {x : Operand} {lo hi : Option Operand} {s : ByteArray} {l h : Nat} (hok : (Op.slice t x lo hi none).operands.toList.all okOpd = true) (hx : opv e x = .string s)
    (hb : aBounds s.size s.size (lo.map (opv e)) (hi.map (opv e)) = some (l, h)) (hq : Q (.string (s.extract l h)) A) : OpW K (.slice t x lo hi none) e A Q :=
  OpW_by rfl hok (evB_pure (by simp only [aPure, ht, hx, hb])) hq

/-- Cells that are bytes. -/
def u8s (l : List UInt8) : List Value := l.map fun b => .int .u8 b.toNat
theorem aBytes_u8s (l : List UInt8) : aBytes (u8s l) = some l := by
  induction l with
  | nil => rfl
  | cons b l ih =>
    unfold u8s at ih ⊢
    rw [List.map_cons, aBytes, ih]
    simp
theorem u8s_len (l : List UInt8) : (u8s l).length = l.length := by simp [u8s]
theorem u8s_append (l m : List UInt8) : u8s (l ++ m) = u8s l ++ u8s m := by simp [u8s]
theorem u8s_one (l : List UInt8) : (u8s l).all one = true := by
  induction l with
  | nil => rfl
  | cons b l ih => unfold u8s at ih ⊢; rw [List.map_cons, List.all_cons, ih]; rfl
theorem strCells_u8s (s : ByteArray) : strCells s = u8s (bl s) := rfl

/-- A part of an array behind a pointer, made a string. -/
theorem OpW_sliceArr {t el n i : Nat} (ht : K.P.underlying t = some (.array n el)) (hs : tsize K.P el = some 1) {x : Operand} {b : Nat} {h m : Operand} {k k' : IntKind} (hok : (Op.slice t x none (some h) (some m)).operands.toList.all okOpd = true)
    (hx : opv e x = .pointer (some ⟨b, 0, none⟩)) (hh : opv e h = .int k i) (hm : opv e m = .int k' i) (hi : 0 < i ∧ i ≤ n) (hq : Q (.slice (some ⟨b, 0, none⟩) i i) A) : OpW K (.slice t x none (some h) (some m)) e A Q := by
  refine OpW_by rfl hok (evB_read ?_ ?_) hq
  · simp only [aPure]
  · have h1 : (0 : Int) ≤ (i : Int) ∧ (i : Int) ≤ (n : Int) := by omega
    simp only [aRead, aSlice, ht, hx, hs, Option.map_some, Option.map_none, hh, hm, h1, and_self, if_true, aBounds, Int.toNat_natCast]
    have h2 : (i : Int) ≤ ((i : Nat) : Int) := Int.le_refl _
    simp [Int.natCast_nonneg]

theorem OpW_bytesStr {s d el : TypeId} (hs : K.P.underlying s = some (.slice el)) (hd : K.P.underlying d = some .string) (he : K.P.underlying el = some (.int .u8)) {x : Operand} {b n c : Nat} {l : List UInt8} (hok : okOpd x = true)
    (hx : opv e x = .slice (some ⟨b, 0, none⟩) n c) (hc : acells A b 0 n = some (u8s l)) (hq : Q (.string ⟨l.toArray⟩) A) : OpW K (.convert s d x) e A Q := by
  refine OpW_by rfl (by simpa [Op.operands] using hok) (evB_read ?_ ?_) hq
  · simp only [aPure, aConvert, hs, hd, hx]
  · simp only [aRead, hs, hd, he, hx, aBytesToString, hc, aBytes_u8s, Option.map_some]
    rfl
end
end Go.Sh
