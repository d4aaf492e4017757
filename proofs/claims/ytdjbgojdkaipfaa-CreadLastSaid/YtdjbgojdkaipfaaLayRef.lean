/-
  Walks of the reference of package word: bytes.
-/
import Derived.Test.YtdjbgojdkaipfaaReadW
import Derived.Deep.RegionWith
namespace Go.Proofs.Ytdjbgojdkaipfaa
open Go.RowKit

set_option maxRecDepth 100000 in
set_option maxHeartbeats 600000 in
theorem roflow_any (T : List UInt8) (w : World) (hT : T.length ≤ 8) :
    Calls Try.prog 166 #[Sv T] w fun e w' => e = .returned (.int .u64 (valL T)) ∧ w = w' := by
  go_enter Try.func166, Try.ntmps166
  go_wp2
  go_loop [3, 4] (fun u i => ∃ j : Nat, j ≤ T.length ∧ i = .int .i64 ((j : Int) - 1) ∧ u = .int .u64 (valL (T.drop j))) (fun _ i => (intOf i + 1).toNat)
  case atStart => exact ⟨T.length, by omega, rfl, by simp [valL]⟩
  case round =>
    obtain ⟨j, hj, rfl, rfl⟩ := hrel
    by_cases hlt : 1 ≤ j
    · obtain ⟨m, rfl⟩ : ∃ m, j = m + 1 := ⟨j - 1, by omega⟩
      rw [show (((m + 1 : Nat) : Int) - 1) = (m : Int) by omega]
      have hv := hid (valL_drop T m (by omega))
      have v0 := valL_nonneg (T.drop (m + 1))
      have v1 : valL (T.drop (m + 1)) ≤ 72057594037927935 := by have := valL_lt_le (T.drop (m + 1)) 7 (by rw [List.length_drop]; omega); omega
      generalize valL (T.drop (m + 1)) = V at hv v0 v1 ⊢
      have n1 := byteAt_lo T m
      have n2 := byteAt_hi T m
      go_wp2
      go_round
      case rel => exact ⟨m, by omega, rfl, by rw [hv.out]; congr 1; omega⟩
      case measure => simp [intOf] <;> omega
    · have hj0 : j = 0 := by omega
      subst hj0
      go_wp2
      go_ret
      exact ⟨by simp, rfl⟩
end Go.Proofs.Ytdjbgojdkaipfaa
