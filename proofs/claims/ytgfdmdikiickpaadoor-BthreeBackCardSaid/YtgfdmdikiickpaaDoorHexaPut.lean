/-
  Walks of package hexa: Put, Text.
-/
import Derived.Test.YtgfdmdikiickpaaDoorHexa
import Derived.StillTailTactics
import Derived.Deep.QuietTactic
import Derived.BigQuiet
import Derived.Deep.RegionHeld3
namespace Go.Proofs.YtgfdmdikiickpaaDoor
open Go.RowKit

set_option maxRecDepth 100000 in
set_option maxHeartbeats 1000000 in
theorem hput_any (vb : Value) (p s : List UInt8) (w : World) (hb0 : Bs w w.heap.size vb p) (hs : p.length + 2 * s.length ≤ 140737488355328) :
    Calls Tryd.prog 97 #[vb, Sv s] w fun e w' => ∃ v, e = .returned v ∧ Own w' w.heap.size v (p ++ hexEnc s) ∧ Below w.heap.size w w' := by
  obtain ⟨A, c, rfl, hlc, hr⟩ := hb0
  have hb0 : Hid (Bs w w.heap.size (.slice A p.length c) p) := ⟨A, c, rfl, hlc, hr⟩
  clear hr hlc
  go_enter Tryd.func97, Tryd.ntmps97
  go_wp2_with (first
    | (refine wpList_makeLen rfl _ _ rfl .i64 .i64 _ _ p.length (p.length + 2 * s.length) rfl rfl rfl (by omega) (by omega) (by omega) w (Below.refl _ _) ?_; intro g w0 hg hown0 hbw0)
    | (refine wpList_copyAll rfl _ _ rfl w g p.length _ _ w.heap.size _ p rfl rfl hown0 rfl (hb0.out.below hbw0) hbw0 ?_; intro w1 hown1 hbw1))
  clear hown0 hbw0 hg
  go_loopw [21, 5] (fun i v wr => ∃ (k : Nat) , k ≤ s.length ∧ i = .int .i64 (k : Int) ∧ Own wr w.heap.size v (p ++ hexEnc (s.take k)) ∧ Below w.heap.size w wr) (fun i _ _ => s.length - (intOf i).toNat)
  case atStart => exact ⟨0, by omega, rfl, by simpa [hexEnc] using hown1, hbw1⟩
  case round =>
    obtain ⟨k, hk, rfl, hown, hbw⟩ := hrel
    clear hown1 hbw1
    by_cases hlt : k < s.length
    · have n1 := byteAt_lo s k
      have n2 := byteAt_hi s k
      have q0 : 0 ≤ byteAt s k / 16 := by omega
      have q1 : byteAt s k / 16 < 16 := by omega
      have r0 : 0 ≤ byteAt s k % 16 := by omega
      have r1 : byteAt s k % 16 < 16 := by omega
      have d1 := dig_at _ q0 q1
      have d2 := dig_at _ r0 r1
      obtain ⟨x0, x1⟩ := digI_bd _ q0 q1
      obtain ⟨y0, y1⟩ := digI_bd _ r0 r1
      have hand := u8_and15 (byteAt s k) n1 (by omega)
      go_wp2_with fail
      have hl : (p ++ hexEnc (s.take k)).length + 2 ≤ 140737488355328 := by
        rw [List.length_append, hexEnc_length, List.length_take]; omega
      have sn := hid (hexEnc_snoc s k hlt)
      go_region_held3 (fun _ => True) (trivial) ((refine step_app2 rfl (.tmp 24) (.tmp 35) rfl w u5 (p ++ hexEnc (s.take k)) rfl _ _ hown.drew hbw.drew rfl x0 x1 y0 y1 hl ?_; intro v1 w1 hown1 hbw1))
      all_goals
        go_wp2
        go_roundw
        case rel => exact ⟨k + 1, by omega, by go_num, by rw [sn.out, ← List.append_assoc]; exact hown1, hbw1⟩
        case measure => simp [intOf]; omega
    · obtain rfl : k = s.length := by omega
      rw [List.take_length] at hown
      go_wp2
      go_ret
      exact ⟨_, rfl, hown, hbw⟩

set_option maxRecDepth 100000 in
set_option maxHeartbeats 1000000 in
theorem htext_any (s : List UInt8) (w : World) (hs : 2 * s.length ≤ 140737488355328) :
    Calls Tryd.prog 74 #[Sv s] w fun e w' => e = .returned (Sv (hexEnc s)) ∧ Below w.heap.size w w' := by
  go_enter Tryd.func74, Tryd.ntmps74
  go_wp2_with (go_at_call 97; refine (hput_any _ [] s _ (Bs.nil _ _) (by simpa using hs)).mono ?_; rintro e w' ⟨v, rfl, hown, hb⟩; have hts := run_to_string hown.bs; clear hown)
  go_ret
  exact ⟨rfl, hb⟩
end Go.Proofs.YtgfdmdikiickpaaDoor
