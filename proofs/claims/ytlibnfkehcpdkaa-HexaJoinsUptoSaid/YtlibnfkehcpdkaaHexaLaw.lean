/-
  The laws of chapter 4: walks.
-/
import Derived.Test.YtlibnfkehcpdkaaHexaRef
namespace Go.Proofs.Ytlibnfkehcpdkaa
open Go.RowKit

set_option maxRecDepth 100000 in
set_option maxHeartbeats 1000000 in
theorem hworks_any (w : World) :
    Calls Try.prog 16 #[] w fun e w' => e = .returned (.bool true) ∧ Below w.heap.size w w' := by
  go_enter Try.func16, Try.ntmps16
  go_wp2_with fail
  refine (hread_any [48, 48, 97, 98] _ (by decide)).mono ?_; rintro e w1 ⟨rfl, hb1⟩
  rw [show hexOut [48, 48, 97, 98] = .tuple #[Sv [0, 171], .int .i64 0] by kernel_rfl]
  go_wp2_with fail
  refine (hread_any [48, 48, 65, 66] _ (by decide)).mono ?_; rintro e w2 ⟨rfl, hb2⟩
  rw [show hexOut [48, 48, 65, 66] = .tuple #[Sv [], .int .i64 3] by kernel_rfl]
  go_wp2_with fail
  refine (htext_any [0, 171] _ (by decide)).mono ?_; rintro e w3 ⟨rfl, hb3⟩
  rw [show hexEnc [0, 171] = [48, 48, 97, 98] by kernel_rfl]
  go_wp2_with fail
  refine (hput_any _ [112] [255] _ (bs_new w3 [112] #[.int .u8 112] (1, 2) 1 rfl rfl) (by decide)).mono ?_; rintro e w4 ⟨v, rfl, hown, hb4⟩
  rw [show [112] ++ hexEnc [255] = [112, 102, 102] by decide +kernel] at hown
  have hts := run_to_string hown.bs
  clear hown
  go_wp2_with fail
  go_ret
  exact ⟨rfl, ext_trans (ext_trans (ext_trans hb1 hb2) hb3) (ext_trans (ext_alloc w3 _) hb4)⟩

set_option maxHeartbeats 1000000 in
theorem hexaReads_any (s : List UInt8) (w : World) (hs : s.length ≤ 140737488355328) :
    Calls Try.prog 3 #[Sv s] w fun e w' => e = .returned (.bool true) ∧ Below w.heap.size w w' := by
  obtain ⟨t, code, ho⟩ : ∃ t code, hexOut s = .tuple #[Sv t, .int .i64 code] := ⟨_, _, rfl⟩
  have Ho := hid ho
  clear ho
  go_enter Try.func3, Try.ntmps3
  go_wp2_with fail
  refine (hread_any s _ (by omega)).mono ?_; rintro e w1 ⟨rfl, hb1⟩
  rw [Ho.out]
  go_wp2_with fail
  refine (rread_any s _ (by omega)).mono ?_; rintro e w2 ⟨rfl, hb2⟩
  rw [Ho.out]
  go_wp2_with fail
  try simp only [string_Sv]
  have hbw := ext_trans hb1 hb2
  clear hb1 hb2
  go_loopw [7] (fun i wr => ∃ k : Nat, k ≤ s.length ∧ i = .int .i64 (k : Int) ∧ Below w.heap.size w wr) (fun i _ => s.length - (intOf i).toNat)
  case atStart => exact ⟨0, by omega, rfl, hbw⟩
  case round =>
    clear hbw
    obtain ⟨k, hk, rfl, hbw⟩ := hrel
    by_cases hlt : k < s.length
    · have n1 := byteAt_lo s k
      have n2 := byteAt_hi s k
      go_wp2_with fail
      refine (nibble_any _ _ (by omega) (by omega)).mono ?_; rintro e w3 ⟨rfl, hb3⟩
      go_wp2_with fail
      refine (rnib_any _ _ (by omega) (by omega)).mono ?_; rintro e w4 ⟨rfl, rfl⟩
      have e1 : (nibV (byteAt s k) != nibV (byteAt s k)) = false := by simp
      have e2 : (nibOk (byteAt s k) != nibOk (byteAt s k)) = false := by simp
      go_wp2
      go_roundw
      case rel => exact ⟨k + 1, by omega, by go_num, hbw.trans (hb3.mono hbw.size)⟩
      case measure => simp [intOf]; omega
    · go_wp2_with (go_at_call 16; refine (hworks_any _).mono ?_; rintro e w5 ⟨rfl, hb5⟩)
      go_ret
      exact ⟨rfl, ext_trans hbw hb5⟩

set_option maxHeartbeats 1000000 in
theorem hexaBack_any (p s : List UInt8) (w : World) (hp : p.length ≤ 4194304) (hs : s.length ≤ 4194304) :
    Calls Try.prog 4 #[Sv p, Sv s] w fun e w' => e = .returned (.bool true) ∧ Below w.heap.size w w' := by
  have hl := hid (hexEnc_length s)
  have hd := hid (hexDec_enc s)
  go_enter Try.func4, Try.ntmps4
  go_wp2_with fail
  refine (htext_any s _ (by omega)).mono ?_; rintro e w1 ⟨rfl, hb1⟩
  go_wp2_with fail
  refine (hread_any (hexEnc s) _ (by rw [hl.out]; omega)).mono ?_; rintro e w2 ⟨rfl, hb2⟩
  rw [hexOut, hd.out]
  simp only [Option.getD_some, Option.isSome_some, if_true]
  go_wp2_with fail
  refine (rtext_any s _ (by omega)).mono ?_; rintro e w3 ⟨rfl, hb3⟩
  have hbw := ext_trans (ext_trans hb1 hb2) hb3
  obtain ⟨v, w4, hcv, hv, hb4⟩ := run_to_bytes w3 p
  go_wp2_with fail
  refine (hput_any _ p s _ hv (by omega)).mono ?_; rintro e w5 ⟨v5, rfl, hown, hb5⟩
  have hts := run_to_string hown.bs
  have hl2 : (((hexEnc s).length : Int) == 2 * (s.length : Int)) = true := by rw [hl.out]; simp
  have hl3 : p.length + (hexEnc s).length ≤ 9223372036854775807 := by rw [hl.out]; omega
  clear hown hcv hv
  go_wp2_with fail
  refine (hworks_any _).mono ?_; rintro e w6 ⟨rfl, hb6⟩
  go_wp2_with fail
  go_ret
  exact ⟨rfl, ext_trans hbw (ext_trans hb4 (ext_trans hb5 hb6))⟩

theorem digI_mono (n m : Int) (h0 : 0 ≤ n) (h1 : n < 16) (g0 : 0 ≤ m) (g1 : m < 16) : (digI n < digI m ↔ n < m) := by unfold digI; split <;> split <;> omega
theorem bt_toNat (n : Int) (h0 : 0 ≤ n) (h1 : n ≤ 255) : ((bt n).toNat : Int) = n := bi_bt n h0 h1
theorem less_step (a b : UInt8) (x y : List UInt8) : Op.bytesLess (a :: x) (b :: y) = (decide (bi a < bi b) || (decide (bi a = bi b) && Op.bytesLess x y)) := by
  have h1 : (a < b) ↔ bi a < bi b := by rw [UInt8.lt_iff_toNat_lt]; unfold bi; omega
  have h2 : (a == b) = decide (bi a = bi b) := by
    rw [Bool.eq_iff_iff]; simp
    exact ⟨fun h => by rw [h], bi_inj⟩
  simp [Op.bytesLess, h1, h2]
theorem less_enc : ∀ a b : List UInt8, Op.bytesLess (hexEnc a) (hexEnc b) = Op.bytesLess a b
  | [], [] => rfl
  | [], b :: r => by simp [hexEnc, Op.bytesLess]
  | a :: r, [] => by simp [hexEnc, Op.bytesLess]
  | a :: r, b :: q => by
    have ih := less_enc r q
    have ha := bi_lt a
    have hb := bi_lt b
    have n1 := nib_dig (bi a / 16) (by omega) (by omega)
    have n2 := nib_dig (bi a % 16) (by omega) (by omega)
    have n3 := nib_dig (bi b / 16) (by omega) (by omega)
    have n4 := nib_dig (bi b % 16) (by omega) (by omega)
    have m1 := digI_mono (bi a / 16) (bi b / 16) (by omega) (by omega) (by omega) (by omega)
    have m2 := digI_mono (bi b / 16) (bi a / 16) (by omega) (by omega) (by omega) (by omega)
    have m3 := digI_mono (bi a % 16) (bi b % 16) (by omega) (by omega) (by omega) (by omega)
    have m4 := digI_mono (bi b % 16) (bi a % 16) (by omega) (by omega) (by omega) (by omega)
    simp only [hexEnc, less_step, ih, bi_bt _ n1.2.2.1 n1.2.2.2, bi_bt _ n2.2.2.1 n2.2.2.2, bi_bt _ n3.2.2.1 n3.2.2.2, bi_bt _ n4.2.2.1 n4.2.2.2]
    rw [Bool.eq_iff_iff]
    simp only [Bool.or_eq_true, Bool.and_eq_true, decide_eq_true_eq]
    generalize digI (bi a / 16) = A at *
    generalize digI (bi a % 16) = B at *
    generalize digI (bi b / 16) = C at *
    generalize digI (bi b % 16) = D at *
    generalize Op.bytesLess r q = Z
    cases Z <;> simp <;> omega

set_option maxHeartbeats 1000000 in
theorem hexaJoins_any (a b : List UInt8) (w : World) (ha : a.length ≤ 4194304) (hb : b.length ≤ 4194304) :
    Calls Try.prog 5 #[Sv a, Sv b] w fun e w' => e = .returned (.bool true) ∧ Below w.heap.size w w' := by
  have hj := hid (hexEnc_append a b)
  have hl := hid (less_enc a b)
  have la : (hexEnc a).length ≤ 8388608 := by rw [hexEnc_length]; omega
  have lb : (hexEnc b).length ≤ 8388608 := by rw [hexEnc_length]; omega
  go_enter Try.func5, Try.ntmps5
  go_wp2_with fail
  refine (htext_any (a ++ b) _ (by simp; omega)).mono ?_; rintro e w1 ⟨rfl, hb1⟩
  rw [hj.out]
  go_wp2_with fail
  refine (htext_any a _ (by omega)).mono ?_; rintro e w2 ⟨rfl, hb2⟩
  go_wp2_with fail
  refine (htext_any b _ (by omega)).mono ?_; rintro e w3 ⟨rfl, hb3⟩
  go_wp2_with fail
  refine (htext_any a _ (by omega)).mono ?_; rintro e w4 ⟨rfl, hb4⟩
  go_wp2_with fail
  refine (htext_any b _ (by omega)).mono ?_; rintro e w5 ⟨rfl, hb5⟩
  have he : (Op.bytesLess (hexEnc a) (hexEnc b) == Op.bytesLess a b) = true := by rw [hl.out]; simp
  go_wp2_with fail
  refine (hworks_any _).mono ?_; rintro e w6 ⟨rfl, hb6⟩
  go_wp2_with fail
  go_ret
  exact ⟨rfl, ext_trans (ext_trans (ext_trans hb1 hb2) (ext_trans hb3 hb4)) (ext_trans hb5 hb6)⟩
end Go.Proofs.Ytlibnfkehcpdkaa
