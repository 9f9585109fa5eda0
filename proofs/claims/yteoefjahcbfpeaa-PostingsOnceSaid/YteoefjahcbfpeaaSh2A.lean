/- Shadow, part 26: bits, bytes, numbers as bytes. -/
import Derived.Test.YteoefjahcbfpeaaShZ
namespace Go.Sh
open Go

theorem wrap_u64 {x : Int} (h : 0 ≤ x ∧ x < 18446744073709551616) : IntKind.u64.wrap x = x := by
  obtain ⟨h1, h2⟩ := h
  simp [IntKind.wrap, IntKind.signed, IntKind.bits]
  omega
theorem wrap_u8 (x : Int) : IntKind.u8.wrap x = x % 256 := by
  simp [IntKind.wrap, IntKind.signed, IntKind.bits]
theorem wrap_u64' (x : Int) : IntKind.u64.wrap x = x % 18446744073709551616 := by
  simp [IntKind.wrap, IntKind.signed, IntKind.bits]

theorem bits_or {a b w : Nat} (ha : a < 2 ^ w) (hb : b * 2 ^ w < 18446744073709551616) (hw : a < 18446744073709551616) :
    IntKind.u64.wrap ((BitVec.ofInt IntKind.u64.bits (a : Int) ||| BitVec.ofInt IntKind.u64.bits ((b * 2 ^ w : Nat) : Int)).toNat : Int) = ((a + b * 2 ^ w : Nat) : Int) := by
  have h1 : (BitVec.ofInt 64 (a : Int) ||| BitVec.ofInt 64 ((b * 2 ^ w : Nat) : Int)).toNat = a + b * 2 ^ w := by
    rw [BitVec.ofInt_natCast, BitVec.ofInt_natCast, BitVec.toNat_or, BitVec.toNat_ofNat, BitVec.toNat_ofNat, Nat.mod_eq_of_lt hw, Nat.mod_eq_of_lt hb, Nat.or_comm, Nat.mul_comm, ← Nat.two_pow_add_eq_or_of_lt ha, Nat.add_comm]
  show IntKind.u64.wrap ((BitVec.ofInt 64 (a : Int) ||| BitVec.ofInt 64 ((b * 2 ^ w : Nat) : Int)).toNat : Int) = _
  rw [h1]
  refine wrap_u64 ⟨by omega, ?_⟩
  have : a + b * 2 ^ w < 18446744073709551616 := by
    rw [Nat.add_comm, Nat.mul_comm, Nat.two_pow_add_eq_or_of_lt ha]
    rw [Nat.mul_comm] at hb
    exact Nat.or_lt_two_pow (n := 64) hb hw
  omega

set_option maxRecDepth 100000 in
theorem bits_low : ∀ b : Fin 256, (BitVec.ofInt 8 (b.val : Int) &&& BitVec.ofInt 8 127).toNat = b.val % 128 := by decide +kernel
set_option maxRecDepth 100000 in
theorem bits_high : ∀ b : Fin 256, (BitVec.ofInt 8 (b.val : Int) ||| BitVec.ofInt 8 128).toNat = b.val % 128 + 128 := by decide +kernel

/-- A number with its sign as a number: n · 2, and turned below 0. -/
def zigN (n : Int) : Int := if 0 ≤ n then 2 * n else -2 * n - 1
def zagN (u : Int) : Int := if u % 2 = 0 then u / 2 else - (u / 2) - 1
theorem zig_zag {u : Int} (h : 0 ≤ u) : zigN (zagN u) = u := by
  unfold zigN zagN
  split <;> split <;> omega
theorem zag_zig (n : Int) : zagN (zigN n) = n := by
  unfold zigN zagN
  split <;> split <;> omega

theorem xor_zero64 (x : BitVec 64) : x ^^^ 0 = x := by simp
theorem xor_ones64 (x : BitVec 64) : x ^^^ BitVec.ofInt 64 (-1) = ~~~ x := by
  rw [show BitVec.ofInt 64 (-1) = BitVec.allOnes 64 from rfl, BitVec.xor_allOnes]


/-! ### Bytes of a string -/
def bl (s : ByteArray) : List UInt8 := s.data.toList
theorem bl_len (s : ByteArray) : s.size = (bl s).length := by
  show s.data.size = s.data.toList.length
  exact Array.length_toList.symm
theorem bl_get (s : ByteArray) (i : Nat) : s[i]? = (bl s)[i]? := by
  by_cases h : i < s.size
  · rw [getElem?_pos s i h, List.getElem?_eq_getElem (by rw [← bl_len]; exact h)]
    rfl
  · rw [getElem?_neg s i h, List.getElem?_eq_none (by rw [← bl_len]; omega)]
theorem bl_mk (l : List UInt8) : bl ⟨l.toArray⟩ = l := by simp [bl]
theorem bl_ext {s t : ByteArray} (h : bl s = bl t) : s = t := by
  obtain ⟨⟨a⟩⟩ := s
  obtain ⟨⟨b⟩⟩ := t
  simp only [bl] at h
  rw [h]
theorem bl_extract (s : ByteArray) (l h : Nat) : bl (s.extract l h) = ((bl s).take h).drop l := by
  unfold bl
  rw [ByteArray.data_extract, Array.toList_extract, List.extract_eq_drop_take']

/-! ### Numbers as bytes -/
def uintL (n : Nat) : List UInt8 := if h : n < 128 then [UInt8.ofNat n] else UInt8.ofNat (n % 128 + 128) :: uintL (n / 128)
termination_by n
decreasing_by omega

/-- One number out of bytes, from its w-th byte on: what it is, how many bytes, which error. -/
def rdU : Nat → Nat → List UInt8 → Nat × Nat × Nat
  | _, _, [] => (0, 0, 2)
  | w, n, b :: s =>
    if (w = 9 ∧ 1 < b.toNat) ∨ (0 < w ∧ b.toNat = 0) then (0, 0, 4)
    else if b.toNat < 128 then (n + b.toNat * 2 ^ (7 * w), w + 1, 0)
    else rdU (w + 1) (n + b.toNat % 128 * 2 ^ (7 * w)) s

theorem ofNat_toNat (b : UInt8) : UInt8.ofNat b.toNat = b := by simp

theorem rdU_canon : ∀ (s : List UInt8) (w n m k : Nat), w ≤ 9 → n < 2 ^ (7 * w) → rdU w n s = (m, k, 0) →
    ∃ q, w + 1 ≤ k ∧ k - w ≤ s.length ∧ s.take (k - w) = uintL q ∧ m = n + q * 2 ^ (7 * w) ∧ (0 < w → 0 < q) ∧ m < 18446744073709551616
  | [], w, n, m, k, _, _, h => by simp [rdU] at h
  | b :: s, w, n, m, k, hw, hn, h => by
    rw [rdU] at h
    have hb := b.toNat_lt
    split at h
    · simp at h
    · rename_i hc
      have hc1 : w = 9 → b.toNat ≤ 1 := fun e => by
        rcases Nat.lt_or_ge 1 b.toNat with h1 | h1
        · exact absurd (.inl ⟨e, h1⟩) hc
        · exact h1
      have hc2 : 0 < w → 0 < b.toNat := fun e => by
        rcases Nat.eq_zero_or_pos b.toNat with h1 | h1
        · exact absurd (.inr ⟨e, h1⟩) hc
        · exact h1
      split at h
      · rename_i hlt
        simp only [Prod.mk.injEq, and_true] at h
        obtain ⟨rfl, rfl⟩ := h
        refine ⟨b.toNat, by omega, by simp, ?_, rfl, hc2, ?_⟩
        · rw [show w + 1 - w = 1 by omega, List.take_succ_cons, List.take_zero, uintL, dif_pos hlt, ofNat_toNat]
        · rcases Nat.lt_or_ge w 9 with h9 | h9
          · have h1 : 2 ^ (7 * w) ≤ 2 ^ 56 := Nat.pow_le_pow_right (by omega) (by omega)
            have h2 : b.toNat * 2 ^ (7 * w) ≤ 127 * 2 ^ (7 * w) := Nat.mul_le_mul_right _ (by omega)
            omega
          · have e9 : w = 9 := by omega
            subst e9
            have := hc1 rfl
            have h2 : b.toNat * 2 ^ (7 * 9) ≤ 1 * 2 ^ (7 * 9) := Nat.mul_le_mul_right _ (by omega)
            omega
      · rename_i hge
        have h9 : w < 9 := by
          rcases Nat.lt_or_ge w 9 with h1 | h1
          · exact h1
          · have := hc1 (by omega); omega
        have hpow : 2 ^ (7 * (w + 1)) = 128 * 2 ^ (7 * w) := by rw [show 7 * (w + 1) = 7 * w + 7 by omega, Nat.pow_add]; omega
        have hn' : n + b.toNat % 128 * 2 ^ (7 * w) < 2 ^ (7 * (w + 1)) := by
          have h2 : b.toNat % 128 * 2 ^ (7 * w) ≤ 127 * 2 ^ (7 * w) := Nat.mul_le_mul_right _ (by omega)
          omega
        obtain ⟨q, g1, g2, g3, g4, g5, g6⟩ := rdU_canon s (w + 1) _ m k (by omega) hn' h
        have hq := g5 (by omega)
        refine ⟨b.toNat % 128 + 128 * q, by omega, by simp; omega, ?_, ?_, fun _ => by omega, g6⟩
        · rw [show k - w = (k - (w + 1)) + 1 by omega, List.take_succ_cons, g3]
          conv => rhs; rw [uintL]
          rw [dif_neg (by omega)]
          congr 1
          · rw [show (b.toNat % 128 + 128 * q) % 128 + 128 = b.toNat by omega, ofNat_toNat]
          · congr 1; omega
        · rw [g4, hpow, Nat.add_mul, Nat.mul_comm 128 (2 ^ (7 * w)), Nat.mul_comm 128 q, Nat.mul_assoc q, Nat.mul_comm 128]
          exact Nat.add_assoc _ _ _

end Go.Sh
