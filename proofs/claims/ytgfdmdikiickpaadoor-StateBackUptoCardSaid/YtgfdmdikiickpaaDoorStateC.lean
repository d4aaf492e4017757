/-
  Walks of the reference of package state: letter, blank, find, keyed, Value.
-/
import Derived.Test.YtgfdmdikiickpaaDoorState
namespace Go.Proofs.YtgfdmdikiickpaaDoor
open Go.RowKit

set_option maxRecDepth 100000 in
theorem rlet_any (b : Int) (w : World) : Calls Tryd.prog 66 #[.int .u8 b] w fun e w' => e = .returned (.bool (lowK b)) ∧ w = w' := by
  by_cases h : 97 ≤ b
  · have HO := hid (show lowK b = decide (b ≤ 122) by simp [lowK, h])
    go_enter Tryd.func66, Tryd.ntmps66
    go_wp2_with fail
    go_ret
    exact ⟨by rw [HO.out]; rfl, rfl⟩
  · have HO := hid (show lowK b = false by simp [lowK, h])
    go_enter Tryd.func66, Tryd.ntmps66
    go_wp2_with fail
    go_ret
    exact ⟨by rw [HO.out]; rfl, rfl⟩
set_option maxRecDepth 100000 in
theorem rblank_any (b : Int) (w : World) : Calls Tryd.prog 91 #[.int .u8 b] w fun e w' => e = .returned (.bool (b == 32 || b == 9)) ∧ w = w' := by
  go_enter Tryd.func91, Tryd.ntmps91
  go_wp2_with fail
  all_goals go_ret
  all_goals exact ⟨by first | rfl | (simp [*]; done), rfl⟩
def FindRel (w : World) (c : UInt8) (s : List UInt8) (i : Value) (wr : World) : Prop := ∃ k : Nat, i = .int .i64 (k : Int) ∧ k ≤ s.length ∧ Hid (findN c s = k + findN c (s.drop k)) ∧ wr = w
set_option maxRecDepth 100000 in
theorem rfind44_any (s : List UInt8) (c : UInt8) (w : World) (hs : s.length ≤ 9223372036854775806) :
    Calls Tryd.prog 59 #[Sv s, .int .u8 (bi c)] w fun e w' => e = .returned (.int .i64 (findN c s : Int)) ∧ w = w' := by
  go_enter Tryd.func59, Tryd.ntmps59
  go_wp2_with fail
  go_loopw [5] (fun i wr => FindRel w c s i wr) (fun i _ => s.length - (intOf i).toNat)
  case atStart => exact ⟨0, rfl, Nat.zero_le _, hid (by simp), rfl⟩
  case round =>
    obtain ⟨k, rfl, hk, HP, rfl⟩ := hrel
    by_cases hlt : k < s.length
    · have HD := hid (findN_drop c s k hlt)
      have qi : (0 : Int) ≤ (k : Int) ∧ (k : Int) < (s.length : Int) := by omega
      by_cases hb : byteAt s k = bi c
      · have HO := hid (show findN c s = k by rw [HP.out, HD.out, if_pos hb]; rfl)
        have qb : (byteAt s k == bi c) = true := by rw [hb]; simp
        clear hb
        go_wp2_with fail
        go_ret
        exact ⟨by rw [HO.out]; rfl, rfl⟩
      · have HP2 := hid (show findN c s = (k + 1) + findN c (s.drop (k + 1)) by rw [HP.out, HD.out, if_neg hb]; omega)
        have qb : (byteAt s k == bi c) = false := by rw [beq_eq_false_iff_ne]; exact hb
        clear hb
        go_wp2_with fail
        refine ⟨⟨k + 1, by go_num, hlt, HP2, rfl⟩, by simp [intOf] <;> omega⟩
    · obtain rfl : k = s.length := by omega
      have HO := hid (show findN c s = s.length by rw [HP.out, List.drop_length]; rfl)
      go_wp2_with fail
      go_ret
      exact ⟨by rw [HO.out]; rfl, rfl⟩
def AllRelR (w : World) (p : Int → Bool) (s : List UInt8) (i : Value) (wr : World) : Prop := ∃ k : Nat, i = .int .i64 (k : Int) ∧ k ≤ s.length ∧ Hid (allP p s = allP p (s.drop k)) ∧ wr = w
set_option maxRecDepth 100000 in
theorem rkeyed_any (s : List UInt8) (n : Int) (w : World) (hs : s.length ≤ 9223372036854775806) :
    Calls Tryd.prog 65 #[Sv s, .int .i64 n] w fun e w' => e = .returned (.bool (allB inKeyB s n)) ∧ w = w' := by
  go_enter Tryd.func65, Tryd.ntmps65
  go_wp2_with fail
  go_loopw [5] (fun i wr => AllRelR w inKeyB s i wr) (fun i _ => s.length - (intOf i).toNat)
  case atStart => exact ⟨0, rfl, Nat.zero_le _, hid rfl, rfl⟩
  case round =>
    obtain ⟨k, rfl, hk, HP, rfl⟩ := hrel
    by_cases hlt : k < s.length
    · have HD := hid (allP_drop inKeyB s k hlt)
      have qi : (0 : Int) ≤ (k : Int) ∧ (k : Int) < (s.length : Int) := by omega
      have hl := fun u => rlet_any (byteAt s k) u
      obtain ⟨b, hb⟩ : ∃ b, byteAt s k = b := ⟨_, rfl⟩
      have HK := hid (show inKeyB b = (lowK b || (numK b || (b == 95 || (b == 45 || (b == 42 || b == 47))))) from rfl)
      obtain ⟨L, hL⟩ : ∃ L, lowK b = L := ⟨_, rfl⟩
      rw [hb] at HD
      simp only [hb, hL] at hl
      rw [hL] at HK
      clear hL
      cases L with
      | true =>
        have HP2 := hid (show allP inKeyB s = allP inKeyB (s.drop (k + 1)) by rw [HP.out, HD.out, HK.out]; rfl)
        go_wp2_with ((go_at_call 66; refine (hl _).mono ?_; rintro e w' ⟨rfl, rfl⟩))
        refine ⟨⟨k + 1, by go_num, hlt, HP2, rfl⟩, by simp [intOf] <;> omega⟩
      | false =>
        have HN := hid (show numK b = (decide (48 ≤ b) && decide (b ≤ 57)) from rfl)
        have HY := hid (fun (h : inKeyB b = true) => (show allP inKeyB s = allP inKeyB (s.drop (k + 1)) by rw [HP.out, HD.out, h]; rfl))
        have HNO := hid (fun (h : inKeyB b = false) => (show allB inKeyB s n = false by unfold allB; rw [HP.out, HD.out, h]; rfl))
        clear HP HD
        go_wp2_with ((go_at_call 66; refine (hl _).mono ?_; rintro e w' ⟨rfl, rfl⟩))
        all_goals try simp only [bne_iff_ne, ne_eq, bne_eq_false_iff_eq, beq_iff_eq, beq_eq_false_iff_ne] at *
        all_goals first
          | (go_ret
             exact ⟨by rw [HNO.out (by rw [HK.out, HN.out, ← Bool.not_eq_true]; simp only [Bool.false_or, Bool.or_eq_true, Bool.and_eq_true, decide_eq_true_eq, beq_iff_eq]; omega)]; rfl, rfl⟩)
          | (refine ⟨⟨k + 1, by go_num, hlt, hid (HY.out (by rw [HK.out, HN.out]; simp only [Bool.false_or, Bool.or_eq_true, Bool.and_eq_true, decide_eq_true_eq, beq_iff_eq]; omega)), rfl⟩, by simp [intOf] <;> omega⟩)
    · obtain rfl : k = s.length := by omega
      have HO := hid (show allB inKeyB s n = (decide (1 ≤ s.length) && decide ((s.length : Int) ≤ n)) by unfold allB; rw [HP.out, List.drop_length]; rfl)
      by_cases h1 : 1 ≤ s.length
      · have HO1 := hid (show allB inKeyB s n = decide ((s.length : Int) ≤ n) by rw [HO.out]; simp [h1])
        go_wp2_with fail
        all_goals go_ret
        all_goals exact ⟨by rw [HO1.out]; first | rfl | (simp [*]; done) | (simp [*]; omega), rfl⟩
      · have HO1 := hid (show allB inKeyB s n = false by rw [HO.out]; simp [h1])
        go_wp2_with fail
        all_goals go_ret
        all_goals exact ⟨by rw [HO1.out]; first | rfl | (simp [*]; done) | (simp [*]; omega), rfl⟩
set_option maxRecDepth 100000 in
theorem rvalue44_any (s : List UInt8) (w : World) (hs : s.length ≤ 9223372036854775806) :
    Calls Tryd.prog 27 #[Sv s] w fun e w' => e = .returned (.bool (valB s)) ∧ w = w' := by
  go_enter Tryd.func27, Tryd.ntmps27
  go_wp2_with fail
  go_loopw [3] (fun i wr => AllRelR w inValB s i wr) (fun i _ => s.length - (intOf i).toNat)
  case atStart => exact ⟨0, rfl, Nat.zero_le _, hid rfl, rfl⟩
  case round =>
    obtain ⟨k, rfl, hk, HP, rfl⟩ := hrel
    by_cases hlt : k < s.length
    · have HD := hid (allP_drop inValB s k hlt)
      have qi : (0 : Int) ≤ (k : Int) ∧ (k : Int) < (s.length : Int) := by omega
      have HN := hid (show inValB (byteAt s k) = (decide (32 ≤ byteAt s k) && (decide (byteAt s k ≤ 126) && (!(byteAt s k == 44) && !(byteAt s k == 61)))) from rfl)
      have HY := hid (fun (h : inValB (byteAt s k) = true) => (show allP inValB s = allP inValB (s.drop (k + 1)) by rw [HP.out, HD.out, h]; rfl))
      have HNO := hid (fun (h : inValB (byteAt s k) = false) => (show valB s = false by unfold valB allB; rw [HP.out, HD.out, h]; rfl))
      clear HP HD
      go_wp2_with fail
      all_goals try simp only [bne_iff_ne, ne_eq, bne_eq_false_iff_eq, beq_iff_eq, beq_eq_false_iff_ne] at *
      all_goals first
        | (go_ret
           exact ⟨by rw [HNO.out (by rw [HN.out, ← Bool.not_eq_true]; simp only [Bool.not_eq_true', Bool.and_eq_true, decide_eq_true_eq, beq_eq_false_iff_ne]; omega)]; rfl, rfl⟩)
        | (refine ⟨⟨k + 1, by go_num, hlt, hid (HY.out (by rw [HN.out]; simp only [Bool.not_eq_true', Bool.and_eq_true, decide_eq_true_eq, beq_eq_false_iff_ne]; omega)), rfl⟩, by simp [intOf] <;> omega⟩)
    · obtain rfl : k = s.length := by omega
      have HO := hid (show valB s = ((decide (1 ≤ s.length) && decide ((s.length : Int) ≤ 256)) && !(byteAt s (s.length - 1) == 32)) by unfold valB allB; rw [HP.out, List.drop_length]; rfl)
      by_cases h1 : 1 ≤ s.length
      · have HO1 := hid (show valB s = (decide ((s.length : Int) ≤ 256) && !(byteAt s (s.length - 1) == 32)) by rw [HO.out]; simp [h1])
        go_wp2_with fail
        all_goals go_ret
        all_goals exact ⟨by rw [HO1.out]; first | rfl | (simp [*, bne]; done) | (simp [*]; omega), rfl⟩
      · have HO1 := hid (show valB s = false by rw [HO.out]; simp [h1])
        go_wp2_with fail
        all_goals go_ret
        all_goals exact ⟨by rw [HO1.out]; first | rfl | (simp [*]; done) | (simp [*]; omega), rfl⟩
end Go.Proofs.YtgfdmdikiickpaaDoor
