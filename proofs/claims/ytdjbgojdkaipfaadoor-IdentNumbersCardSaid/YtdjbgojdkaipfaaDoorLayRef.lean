/-
  Walks of the reference of package word: bytes.
-/
import Derived.Test.YtdjbgojdkaipfaaDoorReadW
import Derived.Deep.RegionWith
namespace Go.Proofs.YtdjbgojdkaipfaaDoor
open Go.RowKit

set_option maxRecDepth 100000 in
set_option maxHeartbeats 600000 in
theorem rhigh_any (u n : Int) (w : World) (h0 : 0 ≤ u) (h1 : u ≤ 18446744073709551615) (n0 : 0 ≤ n) (n1 : n ≤ 8) :
    Calls Tryd.prog 46 #[.int .u64 u, .int .i64 n] w fun e w' => e = .returned (Sv (highB u n.toNat)) ∧ Below w.heap.size w w' := by
  go_enter Tryd.func46, Tryd.ntmps46
  go_wp2
  try simp only [string_Sv]
  go_loopw [0, 5, 6] (fun a s i wr => ∃ k : Nat, (k : Int) ≤ n ∧ i = .int .i64 (k : Int) ∧ a = .int .u64 (u / 256 ^ k) ∧ s = Sv (highB u k) ∧ Below w.heap.size w wr) (fun _ _ i _ => n.toNat - (intOf i).toNat)
  case atStart => exact ⟨0, by omega, rfl, by simp, rfl, Below.refl _ _⟩
  case round =>
    obtain ⟨k, hk, rfl, rfl, rfl, hbw⟩ := hrel
    by_cases hlt : (k : Int) < n
    · have hs := hid (show highB u (k + 1) = [bt (u / 256 ^ k % 256)] ++ highB u k by simp [highB, lowB_snoc])
      have hp := hid (show u / 256 ^ k / 256 = u / 256 ^ (k + 1) by rw [Int.ediv_ediv_of_nonneg (Int.le_of_lt (Int.pow_pos (by omega))), Int.pow_succ])
      have hl : (highB u k).length ≤ 8 := by rw [highB_length]; omega
      have q0 : 0 ≤ u / 256 ^ k := Int.ediv_nonneg h0 (Int.le_of_lt (Int.pow_pos (by omega)))
      have q1 : u / 256 ^ k ≤ 18446744073709551615 := Int.le_trans (Int.ediv_le_self _ h0) h1
      generalize u / 256 ^ k = q at hs hp q0 q1 ⊢
      generalize highB u k = X at hs hl ⊢
      have hcv := fun w => conv_one w (q % 256) (by omega) (by omega)
      go_wp2
      go_roundw
      case rel => exact ⟨k + 1, by omega, by go_num, by rw [hp.out], by rw [hs.out]; rfl, hbw.alloc hbw.size _⟩
      case measure => simp [intOf] <;> omega
    · have hkn := hid (show k = n.toNat by omega)
      go_wp2
      go_ret
      exact ⟨by rw [← hkn.out]; rfl, hbw⟩
end Go.Proofs.YtdjbgojdkaipfaaDoor
