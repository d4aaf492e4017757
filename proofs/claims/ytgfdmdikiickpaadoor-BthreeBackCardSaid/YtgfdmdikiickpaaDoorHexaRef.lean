/-
  Walks of the reference of package hexa.
-/
import Derived.Test.YtgfdmdikiickpaaDoorHexaPut
namespace Go.Proofs.YtgfdmdikiickpaaDoor
open Go.RowKit

set_option maxRecDepth 100000 in
set_option maxHeartbeats 400000 in
theorem rnib_any (c : Int) (w : World) (h0 : 0 ≤ c) (h1 : c ≤ 255) :
    Calls Tryd.prog 108 #[.int .u8 c] w fun e w' => e = .returned (.tuple #[.int .i64 (nibV c), .bool (nibOk c)]) ∧ w' = w := by
  by_cases a : 48 ≤ c
  · by_cases b : c ≤ 57
    · have hv := hid (show nibV c = c - 48 ∧ nibOk c = true by simp [nibV, nibOk, a, b])
      go_enter Tryd.func108, Tryd.ntmps108
      go_wp2
      go_ret2
      exact ⟨by rw [hv.out.1, hv.out.2]; rfl, rfl⟩
    · by_cases d : 97 ≤ c
      · by_cases f : c ≤ 102
        · have hv := hid (show nibV c = c - 87 ∧ nibOk c = true by simp [nibV, nibOk, a, b, d, f])
          go_enter Tryd.func108, Tryd.ntmps108
          go_wp2
          go_ret2
          exact ⟨by rw [hv.out.1, hv.out.2]; rfl, rfl⟩
        · have hv := hid (show nibV c = 0 ∧ nibOk c = false by simp [nibV, nibOk, b, f])
          go_enter Tryd.func108, Tryd.ntmps108
          go_wp2
          go_ret2
          exact ⟨by rw [hv.out.1, hv.out.2]; rfl, rfl⟩
      · have hv := hid (show nibV c = 0 ∧ nibOk c = false by simp [nibV, nibOk, b, d])
        go_enter Tryd.func108, Tryd.ntmps108
        go_wp2
        go_ret2
        exact ⟨by rw [hv.out.1, hv.out.2]; rfl, rfl⟩
  · have d : ¬ 97 ≤ c := by omega
    have hv := hid (show nibV c = 0 ∧ nibOk c = false by simp [nibV, nibOk, a, d])
    go_enter Tryd.func108, Tryd.ntmps108
    go_wp2
    go_ret2
    exact ⟨by rw [hv.out.1, hv.out.2]; rfl, rfl⟩

theorem dig_cut (n : Int) (h0 : 0 ≤ n) (h1 : n < 16) : List.take ((n + 1).toNat - n.toNat) (List.drop n.toNat [48, 49, 50, 51, 52, 53, 54, 55, 56, 57, 97, 98, 99, 100, 101, 102]) = [bt (digI n)] := by
  obtain ⟨m, rfl⟩ := Int.eq_ofNat_of_zero_le h0
  have : ∀ k : Fin 16, List.take (((k.val : Int) + 1).toNat - ((k.val : Int)).toNat) (List.drop ((k.val : Int)).toNat [48, 49, 50, 51, 52, 53, 54, 55, 56, 57, 97, 98, 99, 100, 101, 102]) = [bt (digI (k.val : Int))] := by decide
  exact this ⟨m, by omega⟩

set_option maxRecDepth 100000 in
set_option maxHeartbeats 1000000 in
theorem rtext_any (s : List UInt8) (w : World) (hs : s.length ≤ 281474976710656) :
    Calls Tryd.prog 75 #[Sv s] w fun e w' => e = .returned (Sv (hexEnc s)) ∧ Below w.heap.size w w' := by
  go_enter Tryd.func75, Tryd.ntmps75
  go_wp2
  go_loopw [3, 4] (fun v i wr => ∃ k : Nat, k ≤ s.length ∧ i = .int .i64 (k : Int) ∧ v = Sv (hexEnc (s.take k)) ∧ Below w.heap.size w wr) (fun _ i _ => s.length - (intOf i).toNat)
  case atStart => exact ⟨0, by omega, rfl, rfl, Below.refl _ _⟩
  case round =>
    obtain ⟨k, hk, rfl, rfl, hbw⟩ := hrel
    by_cases hlt : k < s.length
    · have n1 := byteAt_lo s k
      have n2 := byteAt_hi s k
      have q0 : 0 ≤ byteAt s k / 16 := by omega
      have q1 : byteAt s k / 16 < 16 := by omega
      have r0 : 0 ≤ byteAt s k % 16 := by omega
      have r1 : byteAt s k % 16 < 16 := by omega
      have d1 := dig_cut _ q0 q1
      have d2 := dig_cut _ r0 r1
      have hl : (hexEnc (s.take k)).length ≤ 562949953421312 := by
        rw [hexEnc_length, List.length_take]; omega
      have sn := hid (hexEnc_snoc s k hlt)
      generalize hexEnc (s.take k) = acc at hl sn ⊢
      go_wp2_with fail
      go_quiet (fail)
      go_wp2
      go_roundw
      case rel => exact ⟨k + 1, by omega, by go_num, by rw [sn.out], below_drewN hbw _⟩
      case measure => simp [intOf]; omega
    · obtain rfl : k = s.length := by omega
      rw [List.take_length]
      go_wp2
      go_ret
      exact ⟨rfl, hbw⟩

def RawRel (s : List UInt8) (k : Nat) (acc : List UInt8) : Prop := hexRaw s = acc ++ hexRaw (s.drop k)
set_option maxRecDepth 100000 in
set_option maxHeartbeats 1000000 in
theorem rread_any (s : List UInt8) (w : World) (hs : s.length ≤ 140737488355328) :
    Calls Tryd.prog 95 #[Sv s] w fun e w' => e = .returned (hexOut s) ∧ Below w.heap.size w w' := by
  go_enter Tryd.func95, Tryd.ntmps95
  go_wp2
  simp only [string_Sv]
  go_loopw [4, 5] (fun v i wr => ∃ (k : Nat) (acc : List UInt8), 2 * k ≤ s.length ∧ i = .int .i64 (2 * (k : Int)) ∧ acc.length ≤ k ∧ Own wr w.heap.size v acc ∧ Below w.heap.size w wr ∧ RawRel s (2 * k) acc) (fun _ i _ => s.length - (intOf i).toNat)
  case atStart => exact ⟨0, [], by omega, rfl, by simp, Own.nil _ _, Below.refl _ _, by simp [RawRel]⟩
  case round =>
    obtain ⟨k, acc, hk, rfl, ha, hown, hbw, hrel⟩ := hrel
    have HR := hid hrel
    clear hrel
    by_cases hlt : 2 * k + 1 < s.length
    · have n1 := byteAt_lo s (2 * k)
      have n2 := byteAt_hi s (2 * k)
      have n3 := byteAt_lo s (2 * k + 1)
      have n4 := byteAt_hi s (2 * k + 1)
      have m1 := (nibV_bd (byteAt s (2 * k))).1
      have m2 := (nibV_bd (byteAt s (2 * k))).2
      have m3 := (nibV_bd (byteAt s (2 * k + 1))).1
      have m4 := (nibV_bd (byteAt s (2 * k + 1))).2
      have st := hid (hexRaw_step s acc (2 * k) hlt)
      go_wp2_with (first
        | (go_at_call 108; refine (rnib_any _ _ (by omega) (by omega)).mono ?_; rintro e w' ⟨rfl, rfl⟩)
        | (at_builtin; refine wpList_app1 rfl (.tmp 32) (.tmp 38) rfl w u4 acc rfl _ hown hbw rfl (by omega) (by omega) (by omega) ?_; intro v1 w1 hown1 hbw1))
      go_roundw
      case rel =>
        refine ⟨k + 1, _, by omega, by go_num, ?_, hown1, hbw1, ?_⟩
        · simp; omega
        · unfold RawRel
          rw [HR.out, st.out]
          simp [Int.mul_comm]
          rfl
      case measure => simp [intOf]; omega
    · have e : hexRaw s = acc := by rw [HR.out, hexRaw_end _ _ hlt]; simp
      have E := hid e
      have hts := run_to_string hown.bs
      clear e
      cases hd : hexDec s with
      | none =>
        have hne := hid ((hexDec_none s).2 hd)
        have hb : (hexEnc acc == s) = false := by rw [← E.out]; exact beq_eq_false_iff_ne.2 hne.out
        have HD := hid hd
        clear hd
        go_wp2_with (go_at_call 75; refine (rtext_any _ _ (by omega)).mono ?_; rintro e w' ⟨rfl, hb'⟩; have hbw := hbw.trans (hb'.mono hbw.size))
        go_ret2
        exact ⟨by unfold hexOut; rw [HD.out]; rfl, hbw⟩
      | some t =>
        have hr := hexDec_raw s t hd
        have hb : (hexEnc acc == s) = true := by rw [← E.out, hr, hexEnc_dec s t hd]; simp
        have HT := hid (show acc = t by rw [← hr, E.out])
        have HD := hid hd
        clear hd hr
        go_wp2_with (go_at_call 75; refine (rtext_any _ _ (by omega)).mono ?_; rintro e w' ⟨rfl, hb'⟩; have hbw := hbw.trans (hb'.mono hbw.size); have hts := run_to_string (hown.below hb').bs)
        go_ret2
        exact ⟨by unfold hexOut; rw [HD.out, HT.out]; rfl, hbw⟩
end Go.Proofs.YtgfdmdikiickpaaDoor
