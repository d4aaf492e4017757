/-
  The law JnumSame of chapter 11.
-/
import Derived.Test.YtgfdmdikiickpaaJnumLaw
import Derived.Test.YtgfdmdikiickpaaPJnumS
import Derived.Deep.DeepCutAuto
import Derived.Deep.CutBlock
namespace Go.Proofs.Ytgfdmdikiickpaa
open Go.RowKit

theorem decT_len (n : Int) (r0 : -9223372036854775808 ≤ n) (r1 : n ≤ 9223372036854775807) : (decT n).length ≤ 21 := by
  obtain ⟨q1, q2⟩ := abs_ok n r0 r1
  obtain ⟨_, _, b3, _⟩ := decB_ok 19 _ q1 q2
  rw [decT_sg, List.length_append]
  have : (sgT n).length ≤ 1 := by rcases sg_or n with h | h <;> rw [h] <;> decide
  omega
set_option maxRecDepth 100000 in
set_option maxHeartbeats 800000 in
theorem jnumSame_any (n z : Int) (w : World) (r0 : -9223372036854775808 ≤ n) (r1 : n ≤ 9223372036854775807) (z0 : 0 ≤ z) (z1 : z ≤ 255) :
    Calls Try.prog 4 #[.int .i64 n, .int .u8 z] w fun e w' => e = .returned (.bool true) ∧ Below w.heap.size w w' := by
  obtain ⟨K, hK⟩ : ∃ K : Nat, z % 40 = (K : Int) := ⟨(z % 40).toNat, by omega⟩
  have hK40 : K < 40 := by omega
  have hT : z.tmod 40 = (K : Int) := by rw [Int.tmod_eq_emod_of_nonneg z0]; exact hK
  have ln := decT_len n r0 r1
  have lk := decT_len (K : Int) (by omega) (by omega)
  have SA := hid (same_a n r0 r1)
  have SB := hid (show wholeJ (decT n ++ 46 :: (List.replicate K 48 ++ [48])) = (n, 0) by have := same_b n r0 r1 K; simpa only [List.append_assoc, List.cons_append, List.nil_append] using this)
  have SC : Hid (n ≠ 0 → wholeJ (decT n ++ (List.replicate K 48 ++ 101 :: 45 :: decT (K : Int))) = (n, 0)) := hid fun h => by have := same_c n r0 r1 h K hK40; simpa only [List.append_assoc, List.cons_append, List.nil_append] using this
  have SD := hid (same_d n r0 r1)
  have HT := hid (rfl : decT n = decT n)
  have lr : (List.replicate K (48 : UInt8)).length = K := List.length_replicate
  have HBW := hid (Below.refl w.heap.size w)
  go_enter Try.func4, Try.ntmps4
  go_wp2_with fail
  refine (rtext_any n _ r0 r1).mono ?_; rintro e w1 ⟨rfl, rfl⟩
  obtain ⟨D, hD⟩ : ∃ D, decT n = D := ⟨_, rfl⟩
  rw [hD] at SA SB SC SD ln ⊢
  clear hD HT
  obtain ⟨E, hE⟩ : ∃ E, decT (K : Int) = E := ⟨_, rfl⟩
  have HE := hid hE
  rw [hE] at SC lk
  clear hE
  go_upto_block 0 with fail
  go_cut [7] (fun v wx => v = Sv (List.replicate K 48) ∧ wx = w)
  case first =>
    go_wp2_with fail
    go_loop [7, 8] (fun v i => ∃ j : Nat, j ≤ K ∧ v = Sv (List.replicate j 48) ∧ i = .int .i64 (j : Int)) (fun _ i => K - (intOf i).toNat)
    case atStart => exact ⟨0, Nat.zero_le _, rfl, rfl⟩
    case round =>
      obtain ⟨j, hj, rfl, rfl⟩ := hrel
      have hUl : (List.replicate j (48 : UInt8)).length = j := List.length_replicate
      have HU1 := hid (show List.replicate j (48 : UInt8) ++ [48] = List.replicate (j + 1) 48 by rw [List.replicate_succ'])
      by_cases hlt : j < K
      · obtain ⟨U, hU⟩ : ∃ U, List.replicate j (48 : UInt8) = U := ⟨_, rfl⟩
        rw [hU] at hUl HU1 ⊢
        clear hU
        have hl1 : ¬ (9223372036854775807 < U.length + 1) := by omega
        go_wp2_with fail
        go_round
        case rel => exact ⟨j + 1, by omega, by rw [← HU1.out], by go_num⟩
        case measure => simp [intOf]; omega
      · obtain rfl : j = K := by omega
        go_wp2_with fail
        go_meet
        exact ⟨rfl, rfl⟩
  case rest =>
    obtain ⟨rfl, rfl⟩ := hcut
    obtain ⟨R, hR⟩ : ∃ R, List.replicate K (48 : UInt8) = R := ⟨_, rfl⟩
    rw [hR] at SB SC lr ⊢
    clear hR
    go_wp2_with fail
    refine (jwhole_any D _ (by omega)).mono ?_; rintro e w1 ⟨rfl, hw1⟩
    unfold jOut
    rw [SA.out]
    have B1 := hid hw1
    clear hw1 HBW SA
    have a1 : ¬ (9223372036854775807 < D.length + 1) := by omega
    have a2 : ¬ (9223372036854775807 < D.length + 1 + R.length) := by omega
    have a3 : ¬ (9223372036854775807 < D.length + 1 + R.length + 1) := by omega
    have a4 : ¬ (9223372036854775807 < D.length + R.length) := by omega
    have a5 : ¬ (9223372036854775807 < D.length + R.length + 2) := by omega
    have a6 : ¬ (9223372036854775807 < D.length + R.length + 2 + E.length) := by omega
    have a7 : ¬ (9223372036854775807 < D.length + 5) := by omega
    go_wp2_with fail
    refine (jwhole_any (D ++ 46 :: (R ++ [48])) _ (by simp only [List.length_append, List.length_cons, List.length_nil]; omega)).mono ?_; rintro e w2 ⟨rfl, hw2⟩
    unfold jOut
    rw [SB.out]
    have B2 := hid (B1.out.trans (hw2.mono B1.out.size))
    clear hw2 B1 SB
    go_wp2_with fail
    refine (rtext_any (K : Int) _ (by omega) (by omega)).mono ?_; rintro e w3 ⟨rfl, rfl⟩
    rw [HE.out]
    go_wp2_with fail
    refine (jwhole_any (D ++ (R ++ 101 :: 45 :: E)) _ (by simp only [List.length_append, List.length_cons, List.length_nil]; omega)).mono ?_; rintro e w4 ⟨rfl, hw4⟩
    have B4 := hid (B2.out.trans (hw4.mono B2.out.size))
    clear hw4 B2
    unfold jOut
    obtain ⟨X, hX⟩ : ∃ X, wholeJ (D ++ (R ++ 101 :: 45 :: E)) = X := ⟨_, rfl⟩
    rw [hX] at SC ⊢
    clear hX
    obtain ⟨x, y⟩ := X
    go_wp2_with fail
    refine (jwhole_any (D ++ [46, 48, 69, 43, 48]) _ (by simp only [List.length_append, List.length_cons, List.length_nil]; omega)).mono ?_; rintro e w5 ⟨rfl, hw5⟩
    have B5 := hid (B4.out.trans (hw5.mono B4.out.size))
    clear hw5 B4
    unfold jOut
    rw [SD.out]
    have i0 : (n == n) = true := by simp
    by_cases hn : n = 0
    · subst hn
      clear SC SD
      go_wp2_with fail
      refine (jnworks_any _).mono ?_; rintro e w10 ⟨rfl, hw10⟩
      go_wp2_with fail
      go_ret
      exact ⟨rfl, B5.out.trans (hw10.mono B5.out.size)⟩
    · have e := SC.out hn
      injection e with e1 e2
      subst e1 e2
      have q : (x == 0) = false := by simpa using hn
      clear SC SD
      go_wp2_with fail
      refine (jnworks_any _).mono ?_; rintro e w10 ⟨rfl, hw10⟩
      go_wp2_with fail
      go_ret
      exact ⟨rfl, B5.out.trans (hw10.mono B5.out.size)⟩
end Go.Proofs.Ytgfdmdikiickpaa
