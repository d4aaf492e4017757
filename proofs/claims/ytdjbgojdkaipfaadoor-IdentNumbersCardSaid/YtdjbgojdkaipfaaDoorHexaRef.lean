/-
  Walks of the reference of package hexa.
-/
import Derived.Test.YtdjbgojdkaipfaaDoorHexaPut
namespace Go.Proofs.YtdjbgojdkaipfaaDoor
open Go.RowKit

theorem dig_cut (n : Int) (h0 : 0 ≤ n) (h1 : n < 16) : List.take ((n + 1).toNat - n.toNat) (List.drop n.toNat [48, 49, 50, 51, 52, 53, 54, 55, 56, 57, 97, 98, 99, 100, 101, 102]) = [bt (digI n)] := by
  obtain ⟨m, rfl⟩ := Int.eq_ofNat_of_zero_le h0
  have : ∀ k : Fin 16, List.take (((k.val : Int) + 1).toNat - ((k.val : Int)).toNat) (List.drop ((k.val : Int)).toNat [48, 49, 50, 51, 52, 53, 54, 55, 56, 57, 97, 98, 99, 100, 101, 102]) = [bt (digI (k.val : Int))] := by decide
  exact this ⟨m, by omega⟩

set_option maxRecDepth 100000 in
set_option maxHeartbeats 1000000 in
theorem rtext_any (s : List UInt8) (w : World) (hs : s.length ≤ 281474976710656) :
    Calls Tryd.prog 28 #[Sv s] w fun e w' => e = .returned (Sv (hexEnc s)) ∧ Below w.heap.size w w' := by
  go_enter Tryd.func28, Tryd.ntmps28
  go_wp2
  go_loopw [3, 4] (fun v i wr => ∃ k : Nat, k ≤ s.length ∧ i = .int .i64 (k : Int) ∧ v = Sv (hexEnc (s.take k)) ∧ Below w.heap.size w wr) (fun _ i _ => s.length - (intOf i).toNat)
  case atStart => exact ⟨0, by omega, rfl, rfl, Below.refl _ _⟩
  case round =>
    obtain ⟨k, hk, rfl, rfl, hbw⟩ := hrel
    by_cases hlt : k < s.length
    · have n1 := byteAt_lo s k
      have n2 := byteAt_hi s k
      have q0 : 0 ≤ byteAt s k / 16 := by omega
      have q1 : byteAt s k / 16 < 16 := by omega
      have r0 : 0 ≤ byteAt s k % 16 := by omega
      have r1 : byteAt s k % 16 < 16 := by omega
      have d1 := dig_cut _ q0 q1
      have d2 := dig_cut _ r0 r1
      have hl : (hexEnc (s.take k)).length ≤ 562949953421312 := by
        rw [hexEnc_length, List.length_take]; omega
      have sn := hid (hexEnc_snoc s k hlt)
      generalize hexEnc (s.take k) = acc at hl sn ⊢
      go_wp2_with fail
      go_quiet (fail)
      go_wp2
      go_roundw
      case rel => exact ⟨k + 1, by omega, by go_num, by rw [sn.out], below_drewN hbw _⟩
      case measure => simp [intOf]; omega
    · obtain rfl : k = s.length := by omega
      rw [List.take_length]
      go_wp2
      go_ret
      exact ⟨rfl, hbw⟩

def RawRel (s : List UInt8) (k : Nat) (acc : List UInt8) : Prop := hexRaw s = acc ++ hexRaw (s.drop k)
end Go.Proofs.YtdjbgojdkaipfaaDoor
