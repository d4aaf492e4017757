/-
  Walks of package word: numbers.
-/
import Derived.Test.YtdjbgojdkaipfaaPWord
import Derived.Outline
import Derived.Deep.QuietTactic
import Derived.BigQuiet
namespace Go.Proofs.Ytdjbgojdkaipfaa
open Go.RowKit

set_option maxRecDepth 100000 in
set_option maxHeartbeats 400000 in
theorem zig_any (n : Int) (w : World) (h0 : -9223372036854775808 ≤ n) (h1 : n ≤ 9223372036854775807) :
    Calls Try.prog 121 #[.int .i64 n] w fun e w' => e = .returned (.int .u64 (zigV n)) ∧ w = w' := by
  have hz := zig_math n h0 h1
  go_enter Try.func121, Try.ntmps121
  go_wp2
  go_ret
  exact ⟨rfl, rfl⟩
set_option maxRecDepth 100000 in
theorem zag_any (u : Int) (w : World) (h0 : 0 ≤ u) (h1 : u ≤ 18446744073709551615) :
    Calls Try.prog 113 #[.int .u64 u] w fun e w' => e = .returned (.int .i64 (zagV u)) ∧ w = w' := by
  have a0 : 0 ≤ u / 2 := by omega
  have a1 : u / 2 ≤ 9223372036854775807 := by omega
  by_cases hu : u % 2 = 1
  · have hand : bits .and .u64 u 1 = 1 := by rw [u64_and u 1 h0 (by omega) (by omega) (by omega), show (1 : Int).toNat = 1 from rfl, nat_mask1]; omega
    have hx := i64_xor_m1 (u / 2) a0 a1
    have HZ := hid (show zagV u = -(u / 2) - 1 by simp [zagV, hu])
    have hw1 : wrap64 1 = 1 := by unfold wrap64; omega
    have hw2 : wrap64 (-1) = -1 := by unfold wrap64; omega
    clear hu
    go_enter Try.func113, Try.ntmps113
    go_wp2
    go_ret
    exact ⟨by rw [HZ.out]; rfl, rfl⟩
  · have hand : bits .and .u64 u 1 = 0 := by rw [u64_and u 1 h0 (by omega) (by omega) (by omega), show (1 : Int).toNat = 1 from rfl, nat_mask1]; omega
    have hx := i64_xor_0 (u / 2) a0 a1
    have HZ := hid (show zagV u = u / 2 by simp [zagV, hu])
    have hw1 : wrap64 0 = 0 := by unfold wrap64; omega
    clear hu
    go_enter Try.func113, Try.ntmps113
    go_wp2
    go_ret
    exact ⟨by rw [HZ.out]; rfl, rfl⟩
/-- Whole numbers of so many bits: what is told. -/
def fitN (n b : Int) : Int := if 1 ≤ b ∧ b ≤ 64 then (if fitOk n b.toNat then n % 2 ^ b.toNat else 0) else 0
def fitC (n b : Int) : Int := if 1 ≤ b ∧ b ≤ 64 then (if fitOk n b.toNat then 0 else 4) else 13
def wideN (u b : Int) : Int := if 1 ≤ b ∧ b ≤ 64 then wideV u b.toNat else 0
theorem fit_mask (n : Int) (b : Nat) (hb : b ≤ 64) : bits .and .u64 (IntKind.u64.wrap n) (18446744073709551615 / 2 ^ (64 - b)) = n % 2 ^ b := by
  rw [IntKind.wrap_u64, mask_math b hb, and_mask _ b (by omega) (by omega) hb, mod_mod_64 n b hb]
set_option maxRecDepth 100000 in
set_option maxHeartbeats 400000 in
theorem fit_any (n b : Int) (w : World) (h0 : -9223372036854775808 ≤ n) (h1 : n ≤ 9223372036854775807) (b0 : -9223372036854775808 ≤ b) (b1 : b ≤ 9223372036854775807) :
    Calls Try.prog 171 #[.int .i64 n, .int .i64 b] w fun e w' => e = .returned (.tuple #[.int .u64 (fitN n b), .int .i64 (fitC n b)]) ∧ w = w' := by
  by_cases hb : 1 ≤ b ∧ b ≤ 64
  · obtain ⟨k0, k1⟩ := hb
    have e1 : (64 - b).toNat = 64 - b.toNat := by omega
    have HM := hid (fit_mask n b.toNat (by omega))
    have E1 := hid e1
    clear e1
    cases hf : fitOk n b.toNat
    · have HN := hid (show fitN n b = 0 ∧ fitC n b = 4 by simp [fitN, fitC, k0, k1, hf])
      have ht := mt (fit_top n b.toNat).2 (by rw [hf]; simp)
      have t1 : (n / 2 ^ (b.toNat - 1) != 0) = true := by rw [bne_iff_ne]; exact fun h => ht (.inl h)
      have t2 : (n / 2 ^ (b.toNat - 1) != -1) = true := by rw [bne_iff_ne]; exact fun h => ht (.inr h)
      clear ht hf
      go_enter Try.func171, Try.ntmps171
      go_wp2
      go_ret2
      exact ⟨by rw [HN.out.1, HN.out.2]; rfl, rfl⟩
    · have HN := hid (show fitN n b = n % 2 ^ b.toNat ∧ fitC n b = 0 by simp [fitN, fitC, k0, k1, hf])
      have ht := (fit_top n b.toNat).1 hf
      clear hf
      rcases ht with ht | ht
      · have t1 : (n / 2 ^ (b.toNat - 1) != 0) = false := by rw [ht]; rfl
        have t2 : (n / 2 ^ (b.toNat - 1) != -1) = true := by rw [ht]; rfl
        clear ht
        go_enter Try.func171, Try.ntmps171
        go_wp2
        go_ret2
        refine ⟨?_, rfl⟩
        rw [HN.out.1, HN.out.2, ← HM.out, ← E1.out]; rfl
      · have t1 : (n / 2 ^ (b.toNat - 1) != 0) = true := by rw [ht]; rfl
        have t2 : (n / 2 ^ (b.toNat - 1) != -1) = false := by rw [ht]; rfl
        clear ht
        go_enter Try.func171, Try.ntmps171
        go_wp2
        go_ret2
        refine ⟨?_, rfl⟩
        rw [HN.out.1, HN.out.2, ← HM.out, ← E1.out]; rfl
  · have HN := hid (show fitN n b = 0 ∧ fitC n b = 13 by simp only [fitN, fitC, if_neg hb]; exact ⟨trivial, trivial⟩)
    by_cases hlo : b < 1
    · clear hb
      go_enter Try.func171, Try.ntmps171
      go_wp2
      go_ret2
      exact ⟨by rw [HN.out.1, HN.out.2]; rfl, rfl⟩
    · have hhi : 64 < b := by omega
      clear hb
      go_enter Try.func171, Try.ntmps171
      go_wp2
      go_ret2
      exact ⟨by rw [HN.out.1, HN.out.2]; rfl, rfl⟩
theorem wide_spell (u : Int) (b : Nat) (h0 : 1 ≤ b) (h1 : b ≤ 64) : wrap64 (IntKind.u64.wrap (u * 2 ^ (64 - b))) / 2 ^ (64 - b) = wideV u b := by
  rw [← wide_math u b h0 h1, IntKind.wrap_u64]; unfold wrap64
  rfl
set_option maxRecDepth 100000 in
set_option maxHeartbeats 400000 in
theorem wide_any (u b : Int) (w : World) (h0 : 0 ≤ u) (h1 : u ≤ 18446744073709551615) (b0 : -9223372036854775808 ≤ b) (b1 : b ≤ 9223372036854775807) :
    Calls Try.prog 159 #[.int .u64 u, .int .i64 b] w fun e w' => e = .returned (.int .i64 (wideN u b)) ∧ w = w' := by
  by_cases hb : 1 ≤ b ∧ b ≤ 64
  · obtain ⟨k0, k1⟩ := hb
    have E1 := hid (show (64 - b).toNat = 64 - b.toNat by omega)
    have HM := hid (wide_spell u b.toNat (by omega) (by omega))
    have HN := hid (show wideN u b = wideV u b.toNat by simp [wideN, k0, k1])
    go_enter Try.func159, Try.ntmps159
    go_wp2
    go_ret
    refine ⟨?_, rfl⟩
    rw [HN.out, ← HM.out, ← E1.out]; rfl
  · have HN := hid (show wideN u b = 0 by simp only [wideN, if_neg hb])
    by_cases hlo : b < 1
    · clear hb
      go_enter Try.func159, Try.ntmps159
      go_wp2
      go_ret
      exact ⟨by rw [HN.out]; rfl, rfl⟩
    · have hhi : 64 < b := by omega
      clear hb
      go_enter Try.func159, Try.ntmps159
      go_wp2
      go_ret
      exact ⟨by rw [HN.out]; rfl, rfl⟩
theorem signed_math (u : Int) : wrap64 (wrap32 u) = wideN u 32 := by
  simp only [wideN, wideV, show (32 : Int).toNat = 32 from rfl]
  unfold wrap64 wrap32
  simp
  split <;> omega
end Go.Proofs.Ytdjbgojdkaipfaa
