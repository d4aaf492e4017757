/-
  The laws of chapter 2: walks.
-/
import Derived.Test.YtlibnfkehcpdkaaDoorLayRef
import Derived.Test.YtlibnfkehcpdkaaDoorLay
import Derived.Test.YtlibnfkehcpdkaaDoorWordRef
namespace Go.Proofs.YtlibnfkehcpdkaaDoor
open Go.RowKit

set_option maxRecDepth 100000 in
set_option maxHeartbeats 1000000 in
theorem wworks_any (w : World) (hh : Highs w) :
    Calls Tryd.prog 11 #[] w fun e w' => e = .returned (.bool true) ∧ Below w.heap.size w w' := by
  go_enter Tryd.func11, Tryd.ntmps11
  go_wp2_with fail
  refine (fit_any (-1) 8 _ (by decide) (by decide) (by decide) (by decide)).mono ?_; rintro e w' ⟨rfl, rfl⟩
  rw [show fitN (-1) 8 = 255 by decide +kernel, show fitC (-1) 8 = 0 by decide +kernel]
  go_wp2_with fail
  refine (zig_any (-300) _ (by decide) (by decide)).mono ?_; rintro e w' ⟨rfl, rfl⟩
  rw [show zigV (-300) = 599 by decide +kernel]
  go_wp2_with fail
  refine (zag_any 599 _ (by decide) (by decide)).mono ?_; rintro e w' ⟨rfl, rfl⟩
  rw [show zagV 599 = -300 by decide +kernel]
  go_wp2_with fail
  refine (low32_any _ [112] 258 _ (hh.ext (ext_alloc w _)) (bs_new w [112] #[.int .u8 112] (1, 2) 1 rfl rfl) (by decide) (by decide) (by decide)).mono ?_; rintro e w4 ⟨v, rfl, hown, hb4⟩
  rw [show [112] ++ lowB 258 4 = [112, 2, 1, 0, 0] by decide +kernel] at hown
  have hts := run_to_string hown.bs
  clear hown
  go_wp2_with fail
  refine (signed_any 4294967295 _).mono ?_; rintro e w' ⟨rfl, rfl⟩
  rw [show wideN 4294967295 32 = -1 by decide +kernel]
  go_wp2_with fail
  go_ret
  exact ⟨rfl, ext_trans (ext_alloc w _) hb4⟩

set_option maxRecDepth 100000 in
set_option maxHeartbeats 1000000 in
theorem wordFolds_any (n u : Int) (w : World) (hh : Highs w) (h0 : -9223372036854775808 ≤ n) (h1 : n ≤ 9223372036854775807) (u0 : 0 ≤ u) (u1 : u ≤ 18446744073709551615) :
    Calls Tryd.prog 3 #[.int .i64 n, .int .u64 u] w fun e w' => e = .returned (.bool true) ∧ Below w.heap.size w w' := by
  have e1 := hid (zag_zig n)
  have e2 := hid (zig_zag u u0)
  obtain ⟨z0, z1⟩ := zigV_bd n h0 h1
  obtain ⟨y0, y1⟩ := zagV_bd u u0 u1
  go_enter Tryd.func3, Tryd.ntmps3
  go_wp2_with fail
  refine (zig_any n _ h0 h1).mono ?_; rintro e w' ⟨rfl, rfl⟩
  go_wp2_with fail
  refine (rzig_any n _ h0 h1).mono ?_; rintro e w' ⟨rfl, rfl⟩
  go_wp2_with fail
  refine (zag_any u _ u0 u1).mono ?_; rintro e w' ⟨rfl, rfl⟩
  go_wp2_with fail
  refine (rzag_any u _ u0 u1).mono ?_; rintro e w' ⟨rfl, rfl⟩
  go_wp2_with fail
  refine (zig_any n _ h0 h1).mono ?_; rintro e w' ⟨rfl, rfl⟩
  go_wp2_with fail
  refine (zag_any _ _ z0 z1).mono ?_; rintro e w' ⟨rfl, rfl⟩
  rw [e1.out]
  go_wp2_with fail
  refine (zag_any u _ u0 u1).mono ?_; rintro e w' ⟨rfl, rfl⟩
  go_wp2_with fail
  refine (zig_any _ _ y0 y1).mono ?_; rintro e w' ⟨rfl, rfl⟩
  rw [e2.out]
  go_wp2_with fail
  refine (wworks_any _ hh).mono ?_; rintro e w' ⟨rfl, hb⟩
  go_wp2_with fail
  go_ret
  exact ⟨rfl, hb⟩
theorem fit_bd (n b : Int) : 0 ≤ fitN n b ∧ fitN n b ≤ 18446744073709551615 := by
  unfold fitN
  split
  · split
    · have hp := pow_pos' b.toNat
      have hl := pow_le_64 b.toNat (by omega)
      have := Int.emod_nonneg n (show (2 : Int) ^ b.toNat ≠ 0 by omega)
      have := Int.emod_lt_of_pos n hp
      omega
    · omega
  · omega
theorem wide_fit (n b : Int) (h : fitC n b = 0) : wideN (fitN n b) b = n := by
  unfold fitC at h
  split at h
  · rename_i hb
    split at h
    · rename_i hf
      simp only [fitN, wideN, if_pos hb, hf, if_true]
      exact (fit_wide n b.toNat (by omega)).2 hf
    · simp at h
  · simp at h
theorem wide32 (u : Int) : wideN (u % 4294967296) 32 = wideN u 32 := by
  simp only [wideN, show (32 : Int).toNat = 32 from rfl]
  have := wideV_mod u 32
  simpa using this
set_option maxRecDepth 100000 in
set_option maxHeartbeats 1000000 in
theorem wordFits_any (n b u : Int) (w : World) (hh : Highs w) (h0 : -9223372036854775808 ≤ n) (h1 : n ≤ 9223372036854775807) (b0 : -9223372036854775808 ≤ b) (b1 : b ≤ 9223372036854775807) (u0 : 0 ≤ u) (u1 : u ≤ 18446744073709551615) :
    Calls Tryd.prog 4 #[.int .i64 n, .int .i64 b, .int .u64 u] w fun e w' => e = .returned (.bool true) ∧ Below w.heap.size w w' := by
  obtain ⟨f0, f1⟩ := fit_bd n b
  have e1 := hid (wide32 u)
  by_cases hc : fitC n b = 0
  · have e2 := hid (wide_fit n b hc)
    have hC := hid hc
    clear hc
    go_enter Tryd.func4, Tryd.ntmps4
    go_wp2_with fail
    refine (fit_any n b _ h0 h1 b0 b1).mono ?_; rintro e w' ⟨rfl, rfl⟩
    rw [hC.out]
    go_wp2_with fail
    refine (rfit_any n b _ h0 h1 b0 b1).mono ?_; rintro e w' ⟨rfl, rfl⟩
    rw [hC.out]
    go_wp2_with fail
    refine (wide_any u b _ u0 u1 b0 b1).mono ?_; rintro e w' ⟨rfl, rfl⟩
    go_wp2_with fail
    refine (rwide_any u b _ u0 u1 b0 b1).mono ?_; rintro e w' ⟨rfl, rfl⟩
    go_wp2_with fail
    refine (wide_any (fitN n b) b _ f0 f1 b0 b1).mono ?_; rintro e w' ⟨rfl, rfl⟩
    rw [e2.out]
    go_wp2_with fail
    refine (signed_any _ _).mono ?_; rintro e w' ⟨rfl, rfl⟩
    rw [e1.out]
    go_wp2_with fail
    refine (rwide_any u 32 _ u0 u1 (by decide) (by decide)).mono ?_; rintro e w' ⟨rfl, rfl⟩
    go_wp2_with fail
    refine (wworks_any _ hh).mono ?_; rintro e w' ⟨rfl, hb⟩
    go_wp2_with fail
    go_ret
    exact ⟨rfl, hb⟩
  · have hcd : (fitC n b == 0) = false := by simpa using hc
    have HC := hid hc
    clear hc
    go_enter Tryd.func4, Tryd.ntmps4
    go_wp2_with fail
    refine (fit_any n b _ h0 h1 b0 b1).mono ?_; rintro e w' ⟨rfl, rfl⟩
    go_wp2_with fail
    refine (rfit_any n b _ h0 h1 b0 b1).mono ?_; rintro e w' ⟨rfl, rfl⟩
    go_wp2_with fail
    refine (wide_any u b _ u0 u1 b0 b1).mono ?_; rintro e w' ⟨rfl, rfl⟩
    go_wp2_with fail
    refine (rwide_any u b _ u0 u1 b0 b1).mono ?_; rintro e w' ⟨rfl, rfl⟩
    go_wp2_with fail
    refine (signed_any _ _).mono ?_; rintro e w' ⟨rfl, rfl⟩
    rw [e1.out]
    go_wp2_with fail
    refine (rwide_any u 32 _ u0 u1 (by decide) (by decide)).mono ?_; rintro e w' ⟨rfl, rfl⟩
    go_wp2_with fail
    refine (wworks_any _ hh).mono ?_; rintro e w' ⟨rfl, hb⟩
    go_wp2_with fail
    go_ret
    exact ⟨rfl, hb⟩
end Go.Proofs.YtlibnfkehcpdkaaDoor
