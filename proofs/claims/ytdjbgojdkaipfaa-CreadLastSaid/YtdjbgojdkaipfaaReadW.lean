/-
  Walks of package word: numbers read of bytes.
-/
import Derived.Test.YtdjbgojdkaipfaaPLay
import Derived.Test.YtdjbgojdkaipfaaCurRef
namespace Go.Proofs.Ytdjbgojdkaipfaa
open Go.RowKit

theorem Cu.text_len (c : Cu) (n : Int) : (c.text n).length ≤ n.toNat := by
  unfold Cu.text
  split
  · rw [List.length_take]; omega
  · simp


set_option maxRecDepth 100000 in
set_option maxHeartbeats 600000 in
theorem readlow64_any (b : Nat) (c : Cu) (w : World) (hc : CurAt w b c) (hf : c.fit) :
    Calls Try.prog 161 #[ptr b] w fun e w' => e = .returned (.int .u64 (valL (c.text 8))) ∧ CurAt w' b (c.take 8) ∧ w.grownBy w' (some b) := by
  have hT := Cu.text_len c 8
  have e4 : (8 : Int).toNat = 8 := rfl
  rw [e4] at hT
  clear e4
  generalize hTe : c.text 8 = T at hT ⊢
  have HT := hid hTe
  clear hTe
  go_enter Try.func161, Try.ntmps161
  go_wp2_with fail
  refine (take_any b c 8 _ hc hf (by omega) (by omega)).mono ?_; rintro e w1 ⟨rfl, hc1, hg1⟩
  rw [HT.out]
  go_wp2_with fail
  go_loop [3, 5] (fun u i => ∃ j : Nat, j ≤ T.length ∧ i = .int .i64 ((j : Int) - 1) ∧ u = .int .u64 (valL (T.drop j))) (fun _ i => (intOf i + 1).toNat)
  case atStart => exact ⟨T.length, by omega, rfl, by simp [valL]⟩
  case round =>
    obtain ⟨j, hj, rfl, rfl⟩ := hrel
    by_cases hlt : 1 ≤ j
    · obtain ⟨m, rfl⟩ : ∃ m, j = m + 1 := ⟨j - 1, by omega⟩
      rw [show (((m + 1 : Nat) : Int) - 1) = (m : Int) by omega]
      have hv := hid (valL_drop T m (by omega))
      have v0 := valL_nonneg (T.drop (m + 1))
      have v1 : valL (T.drop (m + 1)) ≤ 72057594037927935 := by have := valL_lt_le (T.drop (m + 1)) 7 (by rw [List.length_drop]; omega); omega
      generalize valL (T.drop (m + 1)) = V at hv v0 v1 ⊢
      have n1 := byteAt_lo T m
      have n2 := byteAt_hi T m
      have hor := u64_or256 V (byteAt T m) v0 v1 n1 n2
      go_wp2
      go_round
      case rel => exact ⟨m, by omega, rfl, by rw [hv.out]; congr 1; omega⟩
      case measure => simp [intOf] <;> omega
    · have hj0 : j = 0 := by omega
      subst hj0
      go_wp2
      go_ret
      exact ⟨by simp, hc1, hg1⟩

set_option maxRecDepth 100000 in
set_option maxHeartbeats 600000 in
theorem readhigh64_any (b : Nat) (c : Cu) (w : World) (hc : CurAt w b c) (hf : c.fit) :
    Calls Try.prog 140 #[ptr b] w fun e w' => e = .returned (.int .u64 (valH (c.text 8))) ∧ CurAt w' b (c.take 8) ∧ w.grownBy w' (some b) := by
  have hT := Cu.text_len c 8
  have e4 : (8 : Int).toNat = 8 := rfl
  rw [e4] at hT
  clear e4
  generalize hTe : c.text 8 = T at hT ⊢
  have HT := hid hTe
  clear hTe
  go_enter Try.func140, Try.ntmps140
  go_wp2_with fail
  refine (take_any b c 8 _ hc hf (by omega) (by omega)).mono ?_; rintro e w1 ⟨rfl, hc1, hg1⟩
  rw [HT.out]
  go_wp2_with (refine wpList_to_bytes rfl _ rfl T rfl ?_; intro v2 w2 hv2 hb2; obtain ⟨A, cap, rfl, hlc, hr⟩ := hv2; have HR := hid hr; have HC2 := hid (hc1.ext hb2); have HG2 := hid (only_trans hg1 (only_of_below hb2 (some b))); clear hr hb2 hc1 hg1)
  go_loop [3, 10] (fun u i => ∃ k : Nat, k ≤ T.length ∧ i = .int .i64 (k : Int) ∧ u = .int .u64 (valH (T.take k))) (fun _ i => T.length - (intOf i).toNat)
  case atStart => exact ⟨0, by omega, rfl, by simp [valH, valL]⟩
  case round =>
    obtain ⟨k, hk, rfl, rfl⟩ := hrel
    by_cases hlt : k < T.length
    · obtain ⟨ad, u, hA, hadb, hu, hcell⟩ := HR.out.at_ hlt
      subst hA
      have hul : u = .int .u8 (byteAt T k) := by
        have e : (b8s T)[k]? = some (b8 T[k]) := by simp [b8s, hlt]
        rw [e] at hu; injection hu with hu; rw [byteAt_getElem T k hlt]; exact hu.symm
      subst hul
      clear hu
      have hv := hid (valH_take T k hlt)
      have v0 : 0 ≤ valH (T.take k) := valL_nonneg _
      have v1 : valH (T.take k) ≤ 72057594037927935 := by have := valL_lt_le (T.take k).reverse 7 (by simp; omega); unfold valH; omega
      generalize valH (T.take k) = V at hv v0 v1 ⊢
      have n1 := byteAt_lo T k
      have n2 := byteAt_hi T k
      have hor := u64_or256 V (byteAt T k) v0 v1 n1 n2
      go_wp2
      go_round
      case rel => exact ⟨k + 1, by omega, by go_num, by rw [hv.out]; congr 1; omega⟩
      case measure => simp [intOf] <;> omega
    · have hk0 : k = T.length := by omega
      subst hk0
      rw [List.take_length]
      go_wp2
      go_ret
      exact ⟨rfl, HC2.out, HG2.out⟩
end Go.Proofs.Ytdjbgojdkaipfaa
