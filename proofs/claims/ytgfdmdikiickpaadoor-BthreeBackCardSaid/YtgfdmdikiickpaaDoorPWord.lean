/-
  Numbers of so many bits, as plain arithmetic.
-/
import Derived.Test.YtgfdmdikiickpaaDoorBits
namespace Go.Proofs.YtgfdmdikiickpaaDoor
open Go.RowKit

theorem pow_add_64 (m k : Nat) (h : m + k = 64) : (2 : Int) ^ m * 2 ^ k = 18446744073709551616 := by
  rw [← Int.pow_add, h]; rfl
theorem pow_pos' (m : Nat) : (0 : Int) < 2 ^ m := Int.pow_pos (by omega)
def wideV (u : Int) (b : Nat) : Int := if u % 2 ^ b < 2 ^ (b - 1) then u % 2 ^ b else u % 2 ^ b - 2 ^ b
theorem wide_core (u P M K : Int) (hP : 0 < P) (hM : M = 2 * P) (hK : 0 < K) (hMK : M * K = 18446744073709551616) :
    ((u * K) % 18446744073709551616 + 9223372036854775808) % 18446744073709551616 - 9223372036854775808 = K * (if u % M < P then u % M else u % M - M) := by
  have hPK : P * K = 9223372036854775808 := by
    have : 2 * (P * K) = 18446744073709551616 := by rw [← hMK, hM, Int.mul_assoc]
    omega
  have r0 := Int.emod_nonneg u (show M ≠ 0 by omega)
  have r1 := Int.emod_lt_of_pos u (show 0 < M by omega)
  have e1 : (u * K) % 18446744073709551616 = K * (u % M) := by
    rw [← hMK, Int.mul_comm u K, Int.mul_comm M K, Int.mul_emod_mul_of_pos _ _ hK]
  rw [e1, ← hPK, ← hMK, Int.mul_comm P K, Int.mul_comm M K, ← Int.mul_add, Int.mul_emod_mul_of_pos _ _ hK, ← Int.mul_sub]
  congr 1
  split
  · rw [Int.emod_eq_of_lt (by omega) (by omega)]; omega
  · have : (u % M + P) % M = u % M + P - M := by
      have e := Int.add_emod_right (u % M + P - M) M
      rw [show u % M + P - M + M = u % M + P by omega] at e
      rw [e, Int.emod_eq_of_lt (by omega) (by omega)]
    rw [this]; omega
theorem wide_math (u : Int) (b : Nat) (h0 : 1 ≤ b) (h1 : b ≤ 64) :
    (((u * 2 ^ (64 - b)) % 18446744073709551616 + 9223372036854775808) % 18446744073709551616 - 9223372036854775808) / 2 ^ (64 - b) = wideV u b := by
  have hM : (2 : Int) ^ b = 2 * 2 ^ (b - 1) := by
    obtain ⟨m, rfl⟩ : ∃ m, b = m + 1 := ⟨b - 1, by omega⟩
    rw [Int.pow_succ]; simp [Int.mul_comm]
  have := wide_core u (2 ^ (b - 1)) (2 ^ b) (2 ^ (64 - b)) (pow_pos' _) hM (pow_pos' _) (pow_add_64 b (64 - b) (by omega))
  rw [this, Int.mul_ediv_cancel_left _ (by have := pow_pos' (64 - b); omega)]
  rfl
theorem mask_math (b : Nat) (h1 : b ≤ 64) : (18446744073709551615 : Int) / 2 ^ (64 - b) = 2 ^ b - 1 := by
  have h := pow_add_64 b (64 - b) (by omega)
  have hK := pow_pos' (64 - b)
  have e : (18446744073709551615 : Int) = (2 ^ (64 - b) - 1) + 2 ^ (64 - b) * (2 ^ b - 1) := by
    rw [Int.mul_sub, Int.mul_comm _ (2 ^ b), h]; omega
  rw [e, Int.add_mul_ediv_left _ _ (by omega), Int.ediv_eq_zero_of_lt (by omega) (by omega)]
  omega

theorem and_mask (x : Int) (b : Nat) (h0 : 0 ≤ x) (h1 : x < 18446744073709551616) (hb : b ≤ 64) : bits .and .u64 x (2 ^ b - 1) = x % 2 ^ b := by
  have hp := pow_pos' b
  have hle : (2 : Int) ^ b ≤ 18446744073709551616 := by
    have := pow_add_64 b (64 - b) (by omega)
    have hk := pow_pos' (64 - b)
    have : (2 : Int) ^ b * 1 ≤ 2 ^ b * 2 ^ (64 - b) := Int.mul_le_mul_of_nonneg_left (by omega) (by omega)
    omega
  rw [u64_and x _ h0 h1 (by omega) (by omega)]
  have e : ((2 : Int) ^ b - 1).toNat = 2 ^ b - 1 := by
    have : ((2 ^ b : Nat) : Int) = (2 : Int) ^ b := by simp
    omega
  rw [e, Nat.and_two_pow_sub_one_eq_mod]
  obtain ⟨m, rfl⟩ := Int.eq_ofNat_of_zero_le h0
  simp
def fitOk (n : Int) (b : Nat) : Bool := decide (-2 ^ (b - 1) ≤ n ∧ n < 2 ^ (b - 1))
theorem fit_top (n : Int) (b : Nat) : fitOk n b = true ↔ (n / 2 ^ (b - 1) = 0 ∨ n / 2 ^ (b - 1) = -1) := by
  have hp := pow_pos' (b - 1)
  simp only [fitOk, decide_eq_true_eq]
  generalize (2 : Int) ^ (b - 1) = P at hp ⊢
  have h1 := Int.mul_ediv_add_emod n P
  have h2 := Int.emod_nonneg n (show P ≠ 0 by omega)
  have h3 := Int.emod_lt_of_pos n hp
  constructor
  · intro ⟨a, c⟩
    by_cases hn : 0 ≤ n
    · exact .inl (Int.ediv_eq_zero_of_lt hn c)
    · refine .inr ?_
      have e : n = (n + P) + P * (-1) := by omega
      rw [e, Int.add_mul_ediv_left _ _ (by omega), Int.ediv_eq_zero_of_lt (by omega) (by omega)]
      omega
  · rintro (h | h) <;> rw [h] at h1 <;> omega
theorem fit_wide (n : Int) (b : Nat) (h0 : 1 ≤ b) : wideV (n % 2 ^ b) b = n ↔ fitOk n b = true := by
  have hM : (2 : Int) ^ b = 2 * 2 ^ (b - 1) := by
    obtain ⟨m, rfl⟩ : ∃ m, b = m + 1 := ⟨b - 1, by omega⟩
    rw [Int.pow_succ]; simp [Int.mul_comm]
  have hp := pow_pos' (b - 1)
  unfold wideV fitOk
  rw [Int.emod_emod_of_dvd n (Int.dvd_refl _), hM]
  generalize (2 : Int) ^ (b - 1) = P at hp ⊢
  simp only [decide_eq_true_eq]
  have h2 := Int.emod_nonneg n (show 2 * P ≠ 0 by omega)
  have h3 := Int.emod_lt_of_pos n (show 0 < 2 * P by omega)
  constructor
  · intro h; split at h <;> omega
  · intro ⟨a, c⟩
    by_cases hn : 0 ≤ n
    · rw [Int.emod_eq_of_lt hn (by omega), if_pos c]
    · have e : n % (2 * P) = n + 2 * P := by
        rw [← Int.add_emod_right, Int.emod_eq_of_lt (by omega) (by omega)]
      rw [e, if_neg (by omega)]; omega
theorem mod_mod_64 (n : Int) (b : Nat) (hb : b ≤ 64) : n % 18446744073709551616 % 2 ^ b = n % 2 ^ b := by
  rw [← pow_add_64 b (64 - b) (by omega)]
  exact Int.emod_emod_of_dvd n (Int.dvd_mul_right _ _)
theorem wideV_mod (n : Int) (b : Nat) : wideV (n % 2 ^ b) b = wideV n b := by
  unfold wideV
  rw [Int.emod_emod_of_dvd n (Int.dvd_refl _)]
/-- A whole number folded. -/
def zigV (n : Int) : Int := if n < 0 then -2 * n - 1 else 2 * n
def zagV (u : Int) : Int := if u % 2 = 1 then -(u / 2) - 1 else u / 2
theorem zag_zig (n : Int) : zagV (zigV n) = n := by unfold zagV zigV; split <;> split <;> omega
theorem zig_zag (u : Int) (h : 0 ≤ u) : zigV (zagV u) = u := by unfold zagV zigV; split <;> split <;> omega
theorem zigV_bd (n : Int) (h0 : -9223372036854775808 ≤ n) (h1 : n ≤ 9223372036854775807) : 0 ≤ zigV n ∧ zigV n ≤ 18446744073709551615 := by unfold zigV; split <;> omega
theorem zagV_bd (u : Int) (h0 : 0 ≤ u) (h1 : u ≤ 18446744073709551615) : -9223372036854775808 ≤ zagV u ∧ zagV u ≤ 9223372036854775807 := by unfold zagV; split <;> omega
theorem nat_xor_ones (x : Nat) (h : x < 18446744073709551616) : x ^^^ 18446744073709551615 = 18446744073709551615 - x := by
  have e := BitVec.toNat_not (x := BitVec.ofNat 64 x)
  rw [BitVec.not_def, BitVec.toNat_xor, BitVec.toNat_ofNat, BitVec.toNat_allOnes, Nat.mod_eq_of_lt (by simpa using h)] at e
  rw [Nat.xor_comm]
  simpa [Nat.xor_comm] using e
theorem zig_math (n : Int) (h0 : -9223372036854775808 ≤ n) (h1 : n ≤ 9223372036854775807) :
    bits .xor .u64 (IntKind.u64.wrap (IntKind.u64.wrap n * 2)) (IntKind.u64.wrap (n / 9223372036854775808)) = zigV n := by
  simp only [IntKind.wrap_u64]
  by_cases hn : n < 0
  · rw [show n / 9223372036854775808 % 18446744073709551616 = 18446744073709551615 by omega, show n % 18446744073709551616 * 2 % 18446744073709551616 = 2 * n + 18446744073709551616 by omega]
    rw [u64_xor _ _ (by omega) (by omega) (by omega) (by omega)]
    rw [show (18446744073709551615 : Int).toNat = 18446744073709551615 from rfl, nat_xor_ones _ (by omega)]
    simp only [zigV, hn, if_true]; omega
  · rw [show n / 9223372036854775808 % 18446744073709551616 = 0 by omega, show n % 18446744073709551616 * 2 % 18446744073709551616 = 2 * n by omega]
    rw [u64_xor _ _ (by omega) (by omega) (by omega) (by omega)]
    simp [zigV, hn]; omega
theorem i64_xor_m1 (a : Int) (h0 : 0 ≤ a) (h1 : a ≤ 9223372036854775807) : bits .xor .i64 a (-1) = -a - 1 := by
  obtain ⟨m, rfl⟩ := Int.eq_ofNat_of_zero_le h0
  show IntKind.i64.wrap ((BitVec.ofInt 64 (m : Int) ^^^ BitVec.ofInt 64 (-1)).toNat : Int) = _
  rw [BitVec.toNat_xor, ofInt_i64 m (by omega), show (BitVec.ofInt 64 (-1)).toNat = 18446744073709551615 from rfl, nat_xor_ones _ (by omega), IntKind.wrap_i64]
  omega
theorem i64_xor_0 (a : Int) (h0 : 0 ≤ a) (h1 : a ≤ 9223372036854775807) : bits .xor .i64 a 0 = a := by
  obtain ⟨m, rfl⟩ := Int.eq_ofNat_of_zero_le h0
  show IntKind.i64.wrap ((BitVec.ofInt 64 (m : Int) ^^^ BitVec.ofInt 64 0).toNat : Int) = _
  rw [BitVec.toNat_xor, ofInt_i64 m (by omega), show (BitVec.ofInt 64 0).toNat = 0 from rfl, Nat.xor_zero, IntKind.wrap_i64]
  omega
end Go.Proofs.YtgfdmdikiickpaaDoor
