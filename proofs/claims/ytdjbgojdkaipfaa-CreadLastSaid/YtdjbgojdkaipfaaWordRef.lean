/-
  Walks of the reference of package word: numbers.
-/
import Derived.Test.YtdjbgojdkaipfaaWord
namespace Go.Proofs.Ytdjbgojdkaipfaa
open Go.RowKit

theorem u64_not (x : Int) (h0 : 0 ≤ x) (h1 : x ≤ 18446744073709551615) : bits .xor .u64 IntKind.u64.max x = 18446744073709551615 - x := by
  rw [show IntKind.u64.max = 18446744073709551615 from rfl, u64_xor _ _ (by omega) (by omega) h0 (by omega), Nat.xor_comm]
  rw [show (18446744073709551615 : Int).toNat = 18446744073709551615 from rfl, nat_xor_ones _ (by omega)]
  omega
set_option maxRecDepth 100000 in
set_option maxHeartbeats 400000 in
theorem rzig_any (n : Int) (w : World) (h0 : -9223372036854775808 ≤ n) (h1 : n ≤ 9223372036854775807) :
    Calls Try.prog 124 #[.int .i64 n] w fun e w' => e = .returned (.int .u64 (zigV n)) ∧ w = w' := by
  by_cases hn : n < 0
  · have HZ := hid (show IntKind.u64.wrap (IntKind.u64.wrap (2 * bits BinOp.xor IntKind.u64 IntKind.u64.max (IntKind.u64.wrap n)) + 1) = zigV n by
      rw [u64_not _ (by rw [IntKind.wrap_u64]; omega) (by rw [IntKind.wrap_u64]; omega)]
      simp only [IntKind.wrap_u64, zigV, hn, if_true]; omega)
    go_enter Try.func124, Try.ntmps124
    go_wp2
    go_ret
    exact ⟨by rw [← HZ.out]; rfl, rfl⟩
  · have HZ := hid (show zigV n = 2 * n by simp [zigV, hn])
    go_enter Try.func124, Try.ntmps124
    go_wp2
    go_ret
    exact ⟨by rw [HZ.out]; rfl, rfl⟩
set_option maxRecDepth 100000 in
theorem rzag_any (u : Int) (w : World) (h0 : 0 ≤ u) (h1 : u ≤ 18446744073709551615) :
    Calls Try.prog 118 #[.int .u64 u] w fun e w' => e = .returned (.int .i64 (zagV u)) ∧ w = w' := by
  by_cases hu : u % 2 = 1
  · have HZ := hid (show wrap64 (bits BinOp.xor IntKind.u64 IntKind.u64.max (u / 2)) = zagV u by
      rw [u64_not _ (by omega) (by omega)]
      unfold wrap64
      simp only [zagV, hu, if_true]; omega)
    have hb : (u % 2 == 1) = true := by simpa using hu
    clear hu
    go_enter Try.func118, Try.ntmps118
    go_wp2
    go_ret
    exact ⟨by rw [← HZ.out]; rfl, rfl⟩
  · have HZ := hid (show zagV u = u / 2 by simp [zagV, hu])
    have hb : (u % 2 == 1) = false := by simpa using hu
    clear hu
    go_enter Try.func118, Try.ntmps118
    go_wp2
    go_ret
    exact ⟨by rw [HZ.out]; rfl, rfl⟩
theorem pow_le_63 (k : Nat) (h : k ≤ 63) : (2 : Int) ^ k ≤ 9223372036854775808 := by
  have h1 : (2 : Nat) ^ k ≤ 2 ^ 63 := Nat.pow_le_pow_right (by omega) h
  have h2 : ((2 ^ k : Nat) : Int) = (2 : Int) ^ k := by simp
  omega
theorem pow_le_64 (k : Nat) (h : k ≤ 64) : (2 : Int) ^ k ≤ 18446744073709551616 := by
  have h1 : (2 : Nat) ^ k ≤ 2 ^ 64 := Nat.pow_le_pow_right (by omega) h
  have h2 : ((2 ^ k : Nat) : Int) = (2 : Int) ^ k := by simp
  omega
set_option maxRecDepth 100000 in
set_option maxHeartbeats 400000 in
theorem power_any (n : Int) (w : World) (h0 : 0 ≤ n) (h1 : n ≤ 63) :
    Calls Try.prog 172 #[.int .i64 n] w fun e w' => e = .returned (.int .u64 (2 ^ n.toNat)) ∧ w = w' := by
  go_enter Try.func172, Try.ntmps172
  go_wp2
  go_loop [3, 4] (fun u i => ∃ k : Nat, (k : Int) ≤ n ∧ i = .int .i64 (k : Int) ∧ u = .int .u64 (2 ^ k)) (fun _ i => n.toNat - (intOf i).toNat)
  case atStart => exact ⟨0, by omega, rfl, rfl⟩
  case round =>
    obtain ⟨k, hk, rfl, rfl⟩ := hrel
    have hp := pow_pos' k
    have hs := hid (show (2 : Int) ^ (k + 1) = 2 * 2 ^ k by rw [Int.pow_succ, Int.mul_comm])
    by_cases hlt : (k : Int) < n
    · have hle := pow_le_63 (k + 1) (by omega)
      rw [hs.out] at hle
      generalize (2 : Int) ^ k = P at hp hle hs ⊢
      go_wp2
      go_round
      case rel => exact ⟨k + 1, by omega, by go_num, by rw [hs.out]⟩
      case measure => simp [intOf]; omega
    · have hkn := hid (show k = n.toNat by omega)
      go_wp2
      go_ret
      exact ⟨by rw [← hkn.out]; rfl, rfl⟩
set_option maxRecDepth 100000 in
set_option maxHeartbeats 400000 in
theorem rwide_any (u b : Int) (w : World) (h0 : 0 ≤ u) (h1 : u ≤ 18446744073709551615) (b0 : -9223372036854775808 ≤ b) (b1 : b ≤ 9223372036854775807) :
    Calls Try.prog 164 #[.int .u64 u, .int .i64 b] w fun e w' => e = .returned (.int .i64 (wideN u b)) ∧ w = w' := by
  by_cases hlo : b < 1
  · have HN := hid (show wideN u b = 0 by simp only [wideN]; rw [if_neg (by omega)])
    go_enter Try.func164, Try.ntmps164
    go_wp2
    go_ret
    exact ⟨by rw [HN.out]; rfl, rfl⟩
  by_cases hhi : 64 < b
  · have HN := hid (show wideN u b = 0 by simp only [wideN]; rw [if_neg (by omega)])
    go_enter Try.func164, Try.ntmps164
    go_wp2
    go_ret
    exact ⟨by rw [HN.out]; rfl, rfl⟩
  by_cases h64 : b = 64
  · subst h64
    have HN := hid (show wrap64 u = wideN u 64 by
      simp only [wideN, wideV, show (64 : Int).toNat = 64 from rfl]; unfold wrap64; simp; split <;> omega)
    go_enter Try.func164, Try.ntmps164
    go_wp2
    go_ret
    exact ⟨by rw [← HN.out]; rfl, rfl⟩
  have hne : (b == 64) = false := by simpa using h64
  have hlt : b < 64 := by omega
  obtain ⟨m, rfl⟩ := Int.eq_ofNat_of_zero_le (show 0 ≤ b by omega)
  have HN := hid (show wideN u m = wideV u m by simp only [wideN]; rw [if_pos (by omega)]; rfl)
  have hpm := pow_pos' m
  have hlm := pow_le_63 m (by omega)
  have hm1 : ((m : Int) - 1).toNat = m - 1 := by omega
  have e0 : (m : Int).toNat = m := by omega
  have HM := hid (show (2 : Int) ^ m = 2 * 2 ^ (m - 1) by
    obtain ⟨k, rfl⟩ : ∃ k, m = k + 1 := ⟨m - 1, by omega⟩
    rw [Int.pow_succ]; simp [Int.mul_comm])
  have r0 := Int.emod_nonneg u (show (2 : Int) ^ m ≠ 0 by omega)
  have r1 := Int.emod_lt_of_pos u hpm
  clear h64
  by_cases hc : u % 2 ^ m < 2 ^ (m - 1)
  · have HV := hid (show wideV u m = u % 2 ^ m by simp [wideV, hc])
    go_enter Try.func164, Try.ntmps164
    go_wp2_with (go_at_call 172; refine (power_any _ _ (by omega) (by omega)).mono ?_; rintro e w' ⟨rfl, rfl⟩)
    go_ret
    exact ⟨by rw [HN.out, HV.out]; rfl, rfl⟩
  · have HV := hid (show wrap64 (IntKind.u64.wrap (u % 2 ^ m - 2 ^ m)) = wideV u m by
      have : wideV u m = u % 2 ^ m - 2 ^ m := by simp [wideV, hc]
      rw [this, IntKind.wrap_u64]; unfold wrap64; omega)
    go_enter Try.func164, Try.ntmps164
    go_wp2_with (go_at_call 172; refine (power_any _ _ (by omega) (by omega)).mono ?_; rintro e w' ⟨rfl, rfl⟩)
    go_ret
    exact ⟨by rw [HN.out, ← HV.out]; rfl, rfl⟩

set_option maxRecDepth 100000 in
set_option maxHeartbeats 400000 in
theorem rfit_any (n b : Int) (w : World) (h0 : -9223372036854775808 ≤ n) (h1 : n ≤ 9223372036854775807) (b0 : -9223372036854775808 ≤ b) (b1 : b ≤ 9223372036854775807) :
    Calls Try.prog 167 #[.int .i64 n, .int .i64 b] w fun e w' => e = .returned (.tuple #[.int .u64 (fitN n b), .int .i64 (fitC n b)]) ∧ w = w' := by
  by_cases hlo : b < 1
  · have HN := hid (show fitN n b = 0 ∧ fitC n b = 13 by simp only [fitN, fitC]; rw [if_neg (by omega), if_neg (by omega)]; exact ⟨rfl, rfl⟩)
    go_enter Try.func167, Try.ntmps167
    go_wp2
    go_ret2
    exact ⟨by rw [HN.out.1, HN.out.2]; rfl, rfl⟩
  by_cases hhi : 64 < b
  · have HN := hid (show fitN n b = 0 ∧ fitC n b = 13 by simp only [fitN, fitC]; rw [if_neg (by omega), if_neg (by omega)]; exact ⟨rfl, rfl⟩)
    go_enter Try.func167, Try.ntmps167
    go_wp2
    go_ret2
    exact ⟨by rw [HN.out.1, HN.out.2]; rfl, rfl⟩
  obtain ⟨m, rfl⟩ := Int.eq_ofNat_of_zero_le (show 0 ≤ b by omega)
  have hb : (1 : Int) ≤ m ∧ (m : Int) ≤ 64 := by omega
  have e0 : (m : Int).toNat = m := by omega
  have n0 : 0 ≤ IntKind.u64.wrap n := by rw [IntKind.wrap_u64]; omega
  have n1 : IntKind.u64.wrap n ≤ 18446744073709551615 := by rw [IntKind.wrap_u64]; omega
  have hm0 : IntKind.u64.wrap n % 2 ^ m = n % 2 ^ m := by rw [IntKind.wrap_u64]; exact mod_mod_64 n m (by omega)
  have hpm := pow_pos' m
  have hlm := pow_le_64 m (by omega)
  obtain ⟨q, hq⟩ : ∃ q, n % 2 ^ m = q := ⟨_, rfl⟩
  have r0 : 0 ≤ q := by rw [← hq]; exact Int.emod_nonneg n (by omega)
  have r1 : q < 2 ^ m := by rw [← hq]; exact Int.emod_lt_of_pos n hpm
  have r2 : q ≤ 18446744073709551615 := by omega
  have hmq : IntKind.u64.wrap n % 2 ^ m = q := by rw [hm0, hq]
  have hwn : wideN q m = wideV q m := by simp only [wideN]; rw [if_pos hb]; rfl
  have hfw := fit_wide n m (by omega)
  rw [hq] at hfw
  have HN : Hid (fitN n m = (if wideV q m = n then q else 0) ∧ fitC n m = (if wideV q m = n then 0 else 4)) := by
    have e : fitOk n m = decide (wideV q m = n) := by rw [Bool.eq_iff_iff, ← hfw]; simp
    simp only [fitN, fitC]
    rw [if_pos hb, if_pos hb, show ((m : Int)).toNat = m by omega, e, hq]
    exact ⟨by simp, by simp⟩
  have HQ := hid hq
  clear hm0 hq hfw
  by_cases hk : wideV q m = n
  · have hd : (wideV q m != n) = false := by rw [hk]; simp
    have HK := hid hk
    clear hk
    by_cases h64 : m = 64
    · have hlt : ¬ (m : Int) < 64 := by omega
      have hw64 : IntKind.u64.wrap n = q := by rw [← hmq, Int.emod_eq_of_lt n0 (by rw [h64]; omega)]
      clear hmq h64
      go_enter Try.func167, Try.ntmps167
      go_wp2_with (first | (go_at_call 172; refine (power_any _ _ (by omega) (by omega)).mono ?_; rintro e w' ⟨rfl, rfl⟩) | (go_at_call 164; refine (rwide_any _ _ _ (by omega) (by omega) (by omega) (by omega)).mono ?_; rintro e w' ⟨rfl, rfl⟩))
      go_ret2
      exact ⟨by rw [HN.out.1, HN.out.2, if_pos HK.out, if_pos HK.out]; rfl, rfl⟩
    · have hlt : (m : Int) < 64 := by omega
      go_enter Try.func167, Try.ntmps167
      go_wp2_with (first | (go_at_call 172; refine (power_any _ _ (by omega) (by omega)).mono ?_; rintro e w' ⟨rfl, rfl⟩) | (go_at_call 164; refine (rwide_any _ _ _ (by omega) (by omega) (by omega) (by omega)).mono ?_; rintro e w' ⟨rfl, rfl⟩))
      go_ret2
      exact ⟨by rw [HN.out.1, HN.out.2, if_pos HK.out, if_pos HK.out]; rfl, rfl⟩
  · have hd : (wideV q m != n) = true := by rw [bne_iff_ne]; exact hk
    have HK := hid hk
    clear hk
    by_cases h64 : m = 64
    · have hlt : ¬ (m : Int) < 64 := by omega
      have hw64 : IntKind.u64.wrap n = q := by rw [← hmq, Int.emod_eq_of_lt n0 (by rw [h64]; omega)]
      clear hmq h64
      go_enter Try.func167, Try.ntmps167
      go_wp2_with (first | (go_at_call 172; refine (power_any _ _ (by omega) (by omega)).mono ?_; rintro e w' ⟨rfl, rfl⟩) | (go_at_call 164; refine (rwide_any _ _ _ (by omega) (by omega) (by omega) (by omega)).mono ?_; rintro e w' ⟨rfl, rfl⟩))
      go_ret2
      exact ⟨by rw [HN.out.1, HN.out.2, if_neg HK.out, if_neg HK.out]; rfl, rfl⟩
    · have hlt : (m : Int) < 64 := by omega
      go_enter Try.func167, Try.ntmps167
      go_wp2_with (first | (go_at_call 172; refine (power_any _ _ (by omega) (by omega)).mono ?_; rintro e w' ⟨rfl, rfl⟩) | (go_at_call 164; refine (rwide_any _ _ _ (by omega) (by omega) (by omega) (by omega)).mono ?_; rintro e w' ⟨rfl, rfl⟩))
      go_ret2
      exact ⟨by rw [HN.out.1, HN.out.2, if_neg HK.out, if_neg HK.out]; rfl, rfl⟩
end Go.Proofs.Ytdjbgojdkaipfaa
