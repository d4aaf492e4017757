/-
  Walks of the reference of package word: bytes.
-/
import Derived.Test.YtlibnfkehcpdkaaDoorReadW
import Derived.Deep.RegionWith
namespace Go.Proofs.YtlibnfkehcpdkaaDoor
open Go.RowKit

set_option maxRecDepth 100000 in
set_option maxHeartbeats 600000 in
theorem rlow_any (u n : Int) (w : World) (h0 : 0 ≤ u) (h1 : u ≤ 18446744073709551615) (n0 : 0 ≤ n) (n1 : n ≤ 8) :
    Calls Tryd.prog 29 #[.int .u64 u, .int .i64 n] w fun e w' => e = .returned (Sv (lowB u n.toNat)) ∧ Below w.heap.size w w' := by
  go_enter Tryd.func29, Tryd.ntmps29
  go_wp2
  try simp only [string_Sv]
  go_loopw [0, 5, 6] (fun a s i wr => ∃ k : Nat, (k : Int) ≤ n ∧ i = .int .i64 (k : Int) ∧ a = .int .u64 (u / 256 ^ k) ∧ s = Sv (lowB u k) ∧ Below w.heap.size w wr) (fun _ _ i _ => n.toNat - (intOf i).toNat)
  case atStart => exact ⟨0, by omega, rfl, by simp, rfl, Below.refl _ _⟩
  case round =>
    obtain ⟨k, hk, rfl, rfl, rfl, hbw⟩ := hrel
    by_cases hlt : (k : Int) < n
    · have hs := hid (lowB_snoc u k)
      have hp := hid (show u / 256 ^ k / 256 = u / 256 ^ (k + 1) by rw [Int.ediv_ediv_of_nonneg (Int.le_of_lt (Int.pow_pos (by omega))), Int.pow_succ])
      have hl : (lowB u k).length ≤ 8 := by rw [lowB_length]; omega
      have q0 : 0 ≤ u / 256 ^ k := Int.ediv_nonneg h0 (Int.le_of_lt (Int.pow_pos (by omega)))
      have q1 : u / 256 ^ k ≤ 18446744073709551615 := Int.le_trans (Int.ediv_le_self _ h0) h1
      generalize u / 256 ^ k = q at hs hp q0 q1 ⊢
      generalize lowB u k = X at hs hl ⊢
      have hcv := fun w => conv_one w (q % 256) (by omega) (by omega)
      go_wp2
      go_roundw
      case rel => exact ⟨k + 1, by omega, by go_num, by rw [hp.out], by rw [hs.out], hbw.alloc hbw.size _⟩
      case measure => simp [intOf] <;> omega
    · have hkn := hid (show k = n.toNat by omega)
      go_wp2
      go_ret
      exact ⟨by rw [← hkn.out]; rfl, hbw⟩
set_option maxRecDepth 100000 in
set_option maxHeartbeats 600000 in
theorem rhigh_any (u n : Int) (w : World) (h0 : 0 ≤ u) (h1 : u ≤ 18446744073709551615) (n0 : 0 ≤ n) (n1 : n ≤ 8) :
    Calls Tryd.prog 30 #[.int .u64 u, .int .i64 n] w fun e w' => e = .returned (Sv (highB u n.toNat)) ∧ Below w.heap.size w w' := by
  go_enter Tryd.func30, Tryd.ntmps30
  go_wp2
  try simp only [string_Sv]
  go_loopw [0, 5, 6] (fun a s i wr => ∃ k : Nat, (k : Int) ≤ n ∧ i = .int .i64 (k : Int) ∧ a = .int .u64 (u / 256 ^ k) ∧ s = Sv (highB u k) ∧ Below w.heap.size w wr) (fun _ _ i _ => n.toNat - (intOf i).toNat)
  case atStart => exact ⟨0, by omega, rfl, by simp, rfl, Below.refl _ _⟩
  case round =>
    obtain ⟨k, hk, rfl, rfl, rfl, hbw⟩ := hrel
    by_cases hlt : (k : Int) < n
    · have hs := hid (show highB u (k + 1) = [bt (u / 256 ^ k % 256)] ++ highB u k by simp [highB, lowB_snoc])
      have hp := hid (show u / 256 ^ k / 256 = u / 256 ^ (k + 1) by rw [Int.ediv_ediv_of_nonneg (Int.le_of_lt (Int.pow_pos (by omega))), Int.pow_succ])
      have hl : (highB u k).length ≤ 8 := by rw [highB_length]; omega
      have q0 : 0 ≤ u / 256 ^ k := Int.ediv_nonneg h0 (Int.le_of_lt (Int.pow_pos (by omega)))
      have q1 : u / 256 ^ k ≤ 18446744073709551615 := Int.le_trans (Int.ediv_le_self _ h0) h1
      generalize u / 256 ^ k = q at hs hp q0 q1 ⊢
      generalize highB u k = X at hs hl ⊢
      have hcv := fun w => conv_one w (q % 256) (by omega) (by omega)
      go_wp2
      go_roundw
      case rel => exact ⟨k + 1, by omega, by go_num, by rw [hp.out], by rw [hs.out]; rfl, hbw.alloc hbw.size _⟩
      case measure => simp [intOf] <;> omega
    · have hkn := hid (show k = n.toNat by omega)
      go_wp2
      go_ret
      exact ⟨by rw [← hkn.out]; rfl, hbw⟩
set_option maxRecDepth 100000 in
set_option maxHeartbeats 600000 in
theorem roflow_any (T : List UInt8) (w : World) (hT : T.length ≤ 8) :
    Calls Tryd.prog 35 #[Sv T] w fun e w' => e = .returned (.int .u64 (valL T)) ∧ w = w' := by
  go_enter Tryd.func35, Tryd.ntmps35
  go_wp2
  go_loop [3, 4] (fun u i => ∃ j : Nat, j ≤ T.length ∧ i = .int .i64 ((j : Int) - 1) ∧ u = .int .u64 (valL (T.drop j))) (fun _ i => (intOf i + 1).toNat)
  case atStart => exact ⟨T.length, by omega, rfl, by simp [valL]⟩
  case round =>
    obtain ⟨j, hj, rfl, rfl⟩ := hrel
    by_cases hlt : 1 ≤ j
    · obtain ⟨m, rfl⟩ : ∃ m, j = m + 1 := ⟨j - 1, by omega⟩
      rw [show (((m + 1 : Nat) : Int) - 1) = (m : Int) by omega]
      have hv := hid (valL_drop T m (by omega))
      have v0 := valL_nonneg (T.drop (m + 1))
      have v1 : valL (T.drop (m + 1)) ≤ 72057594037927935 := by have := valL_lt_le (T.drop (m + 1)) 7 (by rw [List.length_drop]; omega); omega
      generalize valL (T.drop (m + 1)) = V at hv v0 v1 ⊢
      have n1 := byteAt_lo T m
      have n2 := byteAt_hi T m
      go_wp2
      go_round
      case rel => exact ⟨m, by omega, rfl, by rw [hv.out]; congr 1; omega⟩
      case measure => simp [intOf] <;> omega
    · have hj0 : j = 0 := by omega
      subst hj0
      go_wp2
      go_ret
      exact ⟨by simp, rfl⟩
set_option maxRecDepth 100000 in
set_option maxHeartbeats 600000 in
theorem rreadlow_any (c : Cu) (n : Int) (w : World) (hf : c.fit) (n0 : 0 ≤ n) (n1 : n ≤ 8) :
    Calls Tryd.prog 20 #[agg c, .int .i64 n] w fun e w' => e = .returned (.tuple #[agg (c.take n), .int .u64 (valL (c.text n))]) ∧ Below w.heap.size w w' := by
  have hT := Cu.text_len c n
  have hT8 : (c.text n).length ≤ 8 := by omega
  unfold agg
  go_enter Tryd.func20, Tryd.ntmps20
  go_wp2_with (go_at_call 34; refine (rtake_any c n _ hf).mono ?_; rintro e w1 ⟨rfl, hb1⟩; unfold agg; obtain ⟨hA, hB, z0, z1, hbw⟩ := box2 hb1; obtain ⟨p0, p1, p2, p3, f0, f1, f2, f3⟩ := blk4 hA; obtain ⟨r0, r1, r2, r3, g0, g1, g2, g3⟩ := blk4 hB; have HBW := hid hbw; clear hA hB hb1 hbw)
  go_region_with (go_at_call 35; refine (roflow_any _ _ hT8).mono ?_; rintro e w' ⟨rfl, rfl⟩)
  all_goals go_wp2
  all_goals exact bodyPost_ret (v := .tuple #[.agg #[Sv (c.take n).s, .int .i64 (c.take n).pos, .int .i64 (c.take n).en, .int .i64 (c.take n).code], .int .u64 (valL (c.text n))]) (by simp only [results, Tryd.results20]; go_simp) rfl ⟨rfl, by (repeat (first | (with_reducible refine Below.drew ?_) | (with_reducible refine Below.setCell ?_ (by simp <;> omega) _) | (with_reducible refine Below.alloc ?_ (by simp <;> omega) _))); exact HBW.out⟩
set_option maxRecDepth 100000 in
set_option maxHeartbeats 1000000 in
theorem rreadhigh_any (c : Cu) (n : Int) (w : World) (hf : c.fit) (n0 : 0 ≤ n) (n1 : n ≤ 8) :
    Calls Tryd.prog 23 #[agg c, .int .i64 n] w fun e w' => e = .returned (.tuple #[agg (c.take n), .int .u64 (valH (c.text n))]) ∧ Below w.heap.size w w' := by
  have hT := Cu.text_len c n
  have hT8 : (c.text n).length ≤ 8 := by omega
  clear hT
  generalize hTe : c.text n = T at hT8 ⊢
  have HT := hid hTe
  clear hTe
  unfold agg
  go_enter Tryd.func23, Tryd.ntmps23
  go_wp2_with (go_at_call 34; refine (rtake_any c n _ hf).mono ?_; rintro e w1 ⟨rfl, hb1⟩; unfold agg; obtain ⟨hA, hB, z0, z1, hbw⟩ := box2 hb1; obtain ⟨p0, p1, p2, p3, f0, f1, f2, f3⟩ := blk4 hA; obtain ⟨r0, r1, r2, r3, g0, g1, g2, g3⟩ := blk4 hB; have HBW := hid hbw; clear hA hB hb1 hbw; rw [HT.out])
  go_loop [7, 8] (fun u i => ∃ k : Nat, k ≤ T.length ∧ i = .int .i64 (k : Int) ∧ u = .int .u64 (valH (T.take k))) (fun _ i => T.length - (intOf i).toNat)
  case atStart => exact ⟨0, by omega, rfl, by simp [valH, valL]⟩
  case round =>
    obtain ⟨k, hk, rfl, rfl⟩ := hrel
    by_cases hlt : k < T.length
    · have hv := hid (valH_take T k hlt)
      have v0 : 0 ≤ valH (T.take k) := valL_nonneg _
      have v1 : valH (T.take k) ≤ 72057594037927935 := by have := valL_lt_le (T.take k).reverse 7 (by simp; omega); unfold valH; omega
      generalize valH (T.take k) = V at hv v0 v1 ⊢
      have n1 := byteAt_lo T k
      have n2 := byteAt_hi T k
      go_wp2
      go_round
      case rel => exact ⟨k + 1, by omega, by go_num, by rw [hv.out]⟩
      case measure => simp [intOf] <;> omega
    · have hk0 : k = T.length := by omega
      subst hk0
      rw [List.take_length]
      go_wp2
      exact bodyPost_ret (v := .tuple #[.agg #[Sv (c.take n).s, .int .i64 (c.take n).pos, .int .i64 (c.take n).en, .int .i64 (c.take n).code], .int .u64 (valH T)]) (by simp only [results, Tryd.results23]; go_simp) rfl ⟨rfl, by (repeat (first | (with_reducible refine Below.drew ?_) | (with_reducible refine Below.setCell ?_ (by simp <;> omega) _) | (with_reducible refine Below.alloc ?_ (by simp <;> omega) _))); exact HBW.out⟩
end Go.Proofs.YtlibnfkehcpdkaaDoor
