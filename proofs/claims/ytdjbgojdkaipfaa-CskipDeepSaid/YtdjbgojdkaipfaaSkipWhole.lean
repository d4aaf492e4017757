/-
  The laws CskipWhole and CskipDeep.
-/
import Derived.Test.YtdjbgojdkaipfaaSkipLaw
import Derived.Test.YtdjbgojdkaipfaaPSkipW
namespace Go.Proofs.Ytdjbgojdkaipfaa
open Go.RowKit

set_option maxRecDepth 100000 in
set_option maxHeartbeats 4000000 in
theorem cskipWhole_any (s : List UInt8) (kind : Int) (r : List UInt8) (w : World) (hs : s.length ≤ 1125899906842624) (hr : r.length ≤ 1125899906842624) (k0 : 0 ≤ kind) (k1 : kind ≤ 255) :
    Calls Try.prog 16 #[Sv s, .int .u8 kind, Sv r] w fun e w' => e = .returned (.bool true) ∧ Below w.heap.size w w' := by
  by_cases q1 : 300 < (s.length : Int)
  · go_enter Try.func16, Try.ntmps16
    go_wp2_with fail
    refine (kworks_any _).mono ?_; rintro e w10 ⟨rfl, hw10⟩
    go_wp2_with fail
    go_ret
    exact ⟨rfl, hw10⟩
  by_cases q2 : 300 < (r.length : Int)
  · go_enter Try.func16, Try.ntmps16
    go_wp2_with fail
    refine (kworks_any _).mono ?_; rintro e w10 ⟨rfl, hw10⟩
    go_wp2_with fail
    go_ret
    exact ⟨rfl, hw10⟩
  have HP := hid (pre_skip 32 kind s)
  by_cases h0 : (skipV 32 kind s).1 = 0
  case neg =>
    have H0 := hid h0
    clear h0
    go_enter Try.func16, Try.ntmps16
    go_wp2_with fail
    refine (new_any s _ hs).mono ?_; rintro e w1 ⟨a, rfl, ha, hca1, hw1⟩
    go_wp2_with fail
    refine (pValue_any a _ kind 0 _ hca1 (Cu.start_fit hs) k0 k1 (by decide) (by decide)).mono ?_; rintro e w2 ⟨ca, rfl, hra, hc2, hg2⟩
    have hcode : ca.code ≠ 0 := by rw [hra.from0.1]; exact H0.out
    have c1 : (ca.code != 0) = true := by rw [bne_iff_ne]; exact hcode
    have A2 := hid hc2
    have hB2 := hid (below_only hw1 hg2 hw1.size ha)
    clear hca1 hw1 hra hc2 hg2 hcode
    go_wp2_with fail
    refine (err_any a _ _ A2.out).mono ?_; rintro e w3 ⟨rfl, rfl⟩
    go_wp2_with fail
    refine (err_any a _ _ A2.out).mono ?_; rintro e w3 ⟨rfl, rfl⟩
    go_wp2_with fail
    refine (kworks_any _).mono ?_; rintro e w10 ⟨rfl, hw10⟩
    go_wp2_with fail
    go_ret
    exact ⟨rfl, hB2.out.trans (hw10.mono hB2.out.size)⟩
  obtain ⟨b1, b2, b3⟩ := HP.out h0
  have hx := b2 r
  generalize hN : (skipV 32 kind s).2 = N at b1 b2 b3 hx
  have H0 := hid h0
  have HN := hid hN
  have HX := hid (show skipV 32 kind (s.take N ++ r) = (0, N) by rw [hx]; exact Prod.ext h0 hN)
  have HC := hid b3
  have hlen : (s.take N ++ r).length = N + r.length := by rw [List.length_append, List.length_take]; omega
  have HLEN := hid hlen
  clear h0 hN hx b2 b3 HP hlen
  have f1 := hid (Cu.start_fit hs)
  have f2 := hid (Cu.start_fit (s := s.take N ++ r) (by rw [HLEN.out]; omega))
  have f3 := hid (Cu.start_fit (s := s.take (N - 1)) (by rw [List.length_take]; omega))
  go_enter Try.func16, Try.ntmps16
  go_wp2_with fail
  refine (new_any s _ hs).mono ?_; rintro e w1 ⟨a, rfl, ha, hca1, hw1⟩
  go_wp2_with fail
  refine (pValue_any a _ kind 0 _ hca1 f1.out k0 k1 (by decide) (by decide)).mono ?_; rintro e w2 ⟨ca, rfl, hra, hc2, hg2⟩
  have hca : ca = ⟨s, N, s.length, 0⟩ := by
    have := hra.from0.2 H0.out
    rw [this]
    exact congrArg (fun n => (⟨s, n, s.length, 0⟩ : Cu)) HN.out
  rw [hca] at hc2
  have A2 := hid hc2
  have hB2 := hid (below_only hw1 hg2 hw1.size ha)
  clear hca1 hw1 hra hc2 hg2 hca
  go_wp2_with fail
  refine (err_any a _ _ A2.out).mono ?_; rintro e w3 ⟨rfl, rfl⟩
  go_wp2_with fail
  refine (at_any a _ _ A2.out).mono ?_; rintro e w3 ⟨rfl, rfl⟩
  go_wp2_with fail
  refine (at_any a _ _ A2.out).mono ?_; rintro e w3 ⟨rfl, rfl⟩
  go_wp2_with fail
  refine (at_any a _ _ A2.out).mono ?_; rintro e w3 ⟨rfl, rfl⟩
  simp only []
  go_wp2_with fail
  refine (new_any (s.take N ++ r) _ (by rw [HLEN.out]; omega)).mono ?_; rintro e w3 ⟨b, rfl, hb, hcb3, hw3⟩
  have hB3 := hid (hB2.out.trans (hw3.mono hB2.out.size))
  have hab : w.heap.size ≤ b := Nat.le_trans hB2.out.size hb
  clear A2 hw3 hB2 hb
  go_wp2_with fail
  refine (pValue_any b _ kind 0 _ hcb3 f2.out k0 k1 (by decide) (by decide)).mono ?_; rintro e w4 ⟨cb, rfl, hrb, hc4, hg4⟩
  have hcb : cb = ⟨s.take N ++ r, N, (s.take N ++ r).length, 0⟩ := by
    have h1 : skipV (32 - (0 : Int)).toNat kind (s.take N ++ r) = (0, N) := HX.out
    have := hrb.from0.2 (by rw [h1])
    rw [this]
    exact congrArg (fun n => (⟨s.take N ++ r, n, (s.take N ++ r).length, 0⟩ : Cu)) (by rw [h1])
  rw [hcb] at hc4
  have B4 := hid hc4
  have hB4 := hid (below_only hB3.out hg4 hB3.out.size hab)
  have i0 : ((N : Int) != (N : Int)) = false := by simp
  clear hcb3 hB3 hrb hc4 hg4 hcb
  go_wp2_with fail
  refine (err_any b _ _ B4.out).mono ?_; rintro e w5 ⟨rfl, rfl⟩
  go_wp2_with fail
  refine (at_any b _ _ B4.out).mono ?_; rintro e w5 ⟨rfl, rfl⟩
  simp only []
  by_cases hN0 : N = 0
  · have z0 : ((N : Int) == 0) = true := by rw [beq_iff_eq]; omega
    go_wp2_with fail
    refine (kworks_any _).mono ?_; rintro e w10 ⟨rfl, hw10⟩
    go_wp2_with fail
    go_ret
    exact ⟨rfl, hB4.out.trans (hw10.mono hB4.out.size)⟩
  have z0 : ((N : Int) == 0) = false := by rw [beq_eq_false_iff_ne]; omega
  have hw1 : IntKind.i64.wrap ((N : Int) - 1) = ((N - 1 : Nat) : Int) := by rw [IntKind.wrap_i64]; omega
  have hsub : (N : Int) - 1 = ((N - 1 : Nat) : Int) := by omega
  have HCUT := hid (HC.out (N - 1) (by omega))
  have hle : N - 1 ≤ s.length := by omega
  clear hN0
  go_wp2_with fail
  refine (new_any (s.take (N - 1)) _ (by rw [List.length_take]; omega)).mono ?_; rintro e w6 ⟨d, rfl, hd, hcd6, hw6⟩
  have hB6 := hid (hB4.out.trans (hw6.mono hB4.out.size))
  have had : w.heap.size ≤ d := Nat.le_trans hB4.out.size hd
  clear B4 hw6 hB4 hd
  go_wp2_with fail
  refine (pValue_any d _ kind 0 _ hcd6 f3.out k0 k1 (by decide) (by decide)).mono ?_; rintro e w7 ⟨cd, rfl, hrd, hc7, hg7⟩
  have hcd : cd.code = 1 := hrd.from0.1.trans HCUT.out
  have D7 := hid hc7
  have hB7 := hid (below_only hB6.out hg7 hB6.out.size had)
  clear hcd6 hB6 hrd hc7 hg7
  go_wp2_with fail
  refine (err_any d _ _ D7.out).mono ?_; rintro e w8 ⟨rfl, rfl⟩
  rw [hcd]
  go_wp2_with fail
  refine (kworks_any _).mono ?_; rintro e w10 ⟨rfl, hw10⟩
  go_wp2_with fail
  go_ret
  exact ⟨rfl, hB7.out.trans (hw10.mono hB7.out.size)⟩
theorem nest_len (m : Nat) (r : List UInt8) : (nest m r).length = m + 2 + r.length := by
  unfold nest
  rw [List.length_append, List.length_replicate, List.length_cons, List.length_cons]; omega
set_option maxRecDepth 100000 in
set_option maxHeartbeats 4000000 in
theorem cskipDeep_any (n : Int) (r : List UInt8) (w : World) (n0 : 0 ≤ n) (n1 : n ≤ 255) (hr : r.length ≤ 140737488351232) :
    Calls Try.prog 14 #[.int .u8 n, Sv r] w fun e w' => e = .returned (.bool true) ∧ Below w.heap.size w w' := by
  have hmod : n.tmod 60 = n % 60 := Int.tmod_eq_emod_of_nonneg n0
  obtain ⟨k, hk⟩ : ∃ k : Nat, n % 60 = (k : Int) := ⟨(n % 60).toNat, by omega⟩
  have hk60 : k < 60 := by omega
  rw [hk] at hmod
  have hw8 : IntKind.u8.wrap (k : Int) = (k : Int) := by rw [IntKind.wrap_u8]; omega
  have hw64 : IntKind.i64.wrap (k : Int) = (k : Int) := by rw [IntKind.wrap_i64]; omega
  go_enter Try.func14, Try.ntmps14
  go_wp2_with fail
  try simp only [string_Sv]
  go_loop [6, 7] (fun s i => ∃ j : Nat, 1 ≤ j ∧ (j ≤ k ∨ j = 1) ∧ i = .int .i64 (j : Int) ∧ s = Sv (List.replicate (j - 1) 25)) (fun _ i => 60 - (intOf i).toNat)
  case atStart => exact ⟨1, by omega, Or.inr rfl, rfl, rfl⟩
  case round =>
    obtain ⟨j, j1, j2, rfl, rfl⟩ := hrel
    have hlj : (List.replicate (j - 1) (25 : UInt8)).length = j - 1 := List.length_replicate
    by_cases hlt : j < k
    · have hrep : List.replicate (j - 1) (25 : UInt8) ++ [25] = List.replicate (j + 1 - 1) 25 := by
        rw [show j + 1 - 1 = (j - 1) + 1 by omega, List.replicate_succ']
      have HREP := hid hrep
      generalize List.replicate (j - 1) (25 : UInt8) = R at hlj HREP ⊢
      clear hrep
      go_wp2_with fail
      go_round
      case rel => exact ⟨j + 1, by omega, by omega, by go_num, by rw [← HREP.out]⟩
      case measure => simp [intOf] <;> omega
    · have hjk : j - 1 = k - 1 := by omega
      have hnest : List.replicate (j - 1) 25 ++ 19 :: 7 :: r = nest (k - 1) r := by rw [hjk, nest]
      have HNE := hid hnest
      have hl2 := nest_len (k - 1) r
      generalize List.replicate (j - 1) (25 : UInt8) = R at hlj HNE ⊢
      clear hnest
      go_wp2_with fail
      rw [HNE.out]
      have hls : (nest (k - 1) r).length ≤ 1125899906842624 := by omega
      have f1 := hid (Cu.start_fit hls)
      refine (new_any (nest (k - 1) r) _ hls).mono ?_; rintro e w1 ⟨a, rfl, ha, hca1, hw1⟩
      go_wp2_with fail
      refine (pValue_any a _ 9 0 _ hca1 f1.out (by decide) (by decide) (by decide) (by decide)).mono ?_; rintro e w2 ⟨ca, rfl, hra, hc2, hg2⟩
      have A2 := hid hc2
      have hB2 := hid (below_only hw1 hg2 hw1.size ha)
      have RA := hid hra.from0
      clear hca1 hw1 hra hc2 hg2 hls
      by_cases hk32 : 32 < k
      · have hcode : ca.code = 33 := RA.out.1.trans (nest_bad (k - 1) 32 r (by omega))
        go_wp2_with fail
        refine (err_any a _ _ A2.out).mono ?_; rintro e w3 ⟨rfl, rfl⟩
        rw [hcode]
        go_wp2_with fail
        refine (kworks_any _).mono ?_; rintro e w10 ⟨rfl, hw10⟩
        go_wp2_with fail
        go_ret
        exact ⟨rfl, hB2.out.trans (hw10.mono hB2.out.size)⟩
      · have hok : skipV (32 - (0 : Int)).toNat 9 (nest (k - 1) r) = (0, k - 1 + 2) := nest_ok (k - 1) 32 r (by omega)
        have hca : ca = ⟨nest (k - 1) r, k - 1 + 2, (nest (k - 1) r).length, 0⟩ := by
          have := RA.out.2 (by rw [hok])
          rw [this]
          exact congrArg (fun n => (⟨nest (k - 1) r, n, (nest (k - 1) r).length, 0⟩ : Cu)) (by rw [hok])
        have hfit : (⟨nest (k - 1) r, k - 1 + 2, (nest (k - 1) r).length, 0⟩ : Cu).fit := ⟨by show k - 1 + 2 ≤ (nest (k - 1) r).length; omega, Nat.le_refl _, f1.out.le3⟩
        have hA := A2.out
        rw [hca] at hA
        have A3 := hid hA
        have FIT := hid hfit
        have hleft : (((nest (k - 1) r).length : Int) - ((k - 1 + 2 : Nat) : Int)) = (r.length : Int) := by omega
        have HLEFT := hid hleft
        clear hok hca hfit hA A2 RA hleft
        have i0 : ((r.length : Int) == (r.length : Int)) = true := by simp
        go_wp2_with fail
        refine (err_any a _ _ A3.out).mono ?_; rintro e w3 ⟨rfl, rfl⟩
        go_wp2_with fail
        refine (left_any_r a _ _ (r.length : Int) HLEFT.out A3.out FIT.out).mono ?_; rintro e w4 ⟨rfl, n4, rfl⟩
        go_wp2_with fail
        refine (kworks_any _).mono ?_; rintro e w10 ⟨rfl, hw10⟩
        go_wp2_with fail
        go_ret
        exact ⟨rfl, (below_drewN hB2.out n4).trans (hw10.mono (below_drewN hB2.out n4).size)⟩
end Go.Proofs.Ytdjbgojdkaipfaa
