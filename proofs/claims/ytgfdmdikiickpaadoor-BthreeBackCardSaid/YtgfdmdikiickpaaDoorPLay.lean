/-
  The bytes of numbers, as plain functions on lists.
-/
import Derived.Test.YtgfdmdikiickpaaDoorPWord
import Derived.Test.YtgfdmdikiickpaaDoorPHexa
namespace Go.Proofs.YtgfdmdikiickpaaDoor
open Go.RowKit

/-- So many bytes of a number, the lowest first. -/
def lowB (u : Int) : Nat → List UInt8
  | 0 => []
  | n + 1 => bt (u % 256) :: lowB (u / 256) n
theorem lowB_length (u : Int) (n : Nat) : (lowB u n).length = n := by
  induction n generalizing u with
  | zero => rfl
  | succ n ih => simp [lowB, ih]
theorem lowB_snoc (u : Int) (n : Nat) : lowB u (n + 1) = lowB u n ++ [bt (u / 256 ^ n % 256)] := by
  induction n generalizing u with
  | zero => simp [lowB]
  | succ n ih =>
    rw [show lowB u (n + 1 + 1) = bt (u % 256) :: lowB (u / 256) (n + 1) from rfl, ih]
    have e : u / 256 / 256 ^ n = u / 256 ^ (n + 1) := by
      rw [Int.ediv_ediv_of_nonneg (by omega), Int.pow_succ, Int.mul_comm]
    rw [e]; rfl
theorem lowB_get (u : Int) (n k : Nat) (h : k < n) : (lowB u n)[k]'(by rw [lowB_length]; exact h) = bt (u / 256 ^ k % 256) := by
  induction n generalizing k with
  | zero => omega
  | succ n ih =>
    have e := lowB_snoc u n
    by_cases hk : k < n
    · have := ih k hk
      simp only [e]
      rw [List.getElem_append_left (by rw [lowB_length]; exact hk)]
      exact this
    · obtain rfl : k = n := by omega
      simp only [e]
      rw [List.getElem_append_right (by rw [lowB_length]; omega)]
      simp [lowB_length]
def highB (u : Int) (n : Nat) : List UInt8 := (lowB u n).reverse
theorem highB_length (u : Int) (n : Nat) : (highB u n).length = n := by simp [highB, lowB_length]
theorem highB_take (u : Int) (n k : Nat) (h : k < n) : (highB u n).take (k + 1) = (highB u n).take k ++ [bt (u / 256 ^ (n - 1 - k) % 256)] := by
  have hl : k < (highB u n).length := by rw [highB_length]; exact h
  rw [List.take_succ_eq_append_getElem hl]
  congr 2
  simp only [highB, List.getElem_reverse]
  rw [← lowB_get u n (n - 1 - k) (by omega)]
  congr 1
  rw [lowB_length]
theorem pow_256 (k : Nat) : (256 : Int) ^ k = 2 ^ (8 * k) := by
  rw [Int.pow_mul]; rfl
/-- The number of bytes, the lowest first, and the highest first. -/
def valL : List UInt8 → Int
  | [] => 0
  | b :: r => bi b + 256 * valL r
def valH (l : List UInt8) : Int := valL l.reverse
theorem valL_nonneg (l : List UInt8) : 0 ≤ valL l := by
  induction l with
  | nil => simp [valL]
  | cons b r ih => have := bi_lt b; simp only [valL]; omega
theorem valL_lt (l : List UInt8) : valL l < 256 ^ l.length := by
  induction l with
  | nil => simp [valL]
  | cons b r ih => have := bi_lt b; simp only [valL, List.length_cons, Int.pow_succ]; omega
theorem valL_lt_le (l : List UInt8) (n : Nat) (h : l.length ≤ n) : valL l < 256 ^ n := by
  have h1 := valL_lt l
  have h2 : (256 : Nat) ^ l.length ≤ 256 ^ n := Nat.pow_le_pow_right (by omega) h
  have h3 : ((256 ^ l.length : Nat) : Int) = (256 : Int) ^ l.length := by simp
  have h4 : ((256 ^ n : Nat) : Int) = (256 : Int) ^ n := by simp
  omega
theorem valL_append (a b : List UInt8) : valL (a ++ b) = valL a + 256 ^ a.length * valL b := by
  induction a with
  | nil => simp [valL]
  | cons x r ih =>
    simp only [List.cons_append, valL, ih, List.length_cons, Int.pow_succ]
    rw [Int.mul_add, ← Int.mul_assoc, Int.mul_comm 256 (256 ^ r.length), Int.add_assoc]
theorem valL_low (u : Int) (n : Nat) (h0 : 0 ≤ u) (h1 : u < 256 ^ n) : valL (lowB u n) = u := by
  induction n generalizing u with
  | zero => simp [lowB, valL] at *; omega
  | succ n ih =>
    simp only [lowB, valL]
    rw [bi_bt _ (by omega) (by omega), ih (u / 256) (by omega) (by rw [Int.pow_succ] at h1; omega)]
    omega
theorem valH_high (u : Int) (n : Nat) (h0 : 0 ≤ u) (h1 : u < 256 ^ n) : valH (highB u n) = u := by
  simp only [valH, highB, List.reverse_reverse]
  exact valL_low u n h0 h1
theorem valL_drop (l : List UInt8) (k : Nat) (h : k < l.length) : valL (l.drop k) = byteAt l k + 256 * valL (l.drop (k + 1)) := by
  rw [List.drop_eq_getElem_cons h, byteAt_getElem l k h]; rfl
theorem valH_take (l : List UInt8) (k : Nat) (h : k < l.length) : valH (l.take (k + 1)) = 256 * valH (l.take k) + byteAt l k := by
  rw [List.take_succ_eq_append_getElem h, byteAt_getElem l k h]
  simp only [valH, List.reverse_append, List.reverse_cons, List.reverse_nil, List.nil_append, List.cons_append, valL]
  omega
theorem nat_or256 (a b : Nat) (hb : b ≤ 255) : a * 256 ||| b = a * 256 + b := by
  have := Nat.shiftLeft_add_eq_or_of_lt (b := b) (i := 8) (by omega) a
  rw [Nat.shiftLeft_eq] at this
  exact this.symm
theorem u64_or256 (a b : Int) (h0 : 0 ≤ a) (h1 : a ≤ 72057594037927935) (g0 : 0 ≤ b) (g1 : b ≤ 255) : bits .or .u64 (a * 256) b = a * 256 + b := by
  obtain ⟨m, rfl⟩ := Int.eq_ofNat_of_zero_le h0
  obtain ⟨n, rfl⟩ := Int.eq_ofNat_of_zero_le g0
  have := u64_or_nat (m * 256) n (by omega) (by omega)
  rw [nat_or256 m n (by omega), Int.natCast_add, Int.natCast_mul] at this
  exact this
theorem u32_or256 (a b : Int) (h0 : 0 ≤ a) (h1 : a ≤ 16777215) (g0 : 0 ≤ b) (g1 : b ≤ 255) : bits .or .u32 (a * 256) b = a * 256 + b := by
  obtain ⟨m, rfl⟩ := Int.eq_ofNat_of_zero_le h0
  obtain ⟨n, rfl⟩ := Int.eq_ofNat_of_zero_le g0
  have := u32_or_nat (m * 256) n (by omega) (by omega)
  rw [nat_or256 m n (by omega), Int.natCast_add, Int.natCast_mul] at this
  exact this
end Go.Proofs.YtgfdmdikiickpaaDoor
