/-
  Texts for the laws of this seat, merged: StateC, StateD, StateF, StateG, StateI.
-/
import Derived.Test.YtgfdmdikiickpaaGreatDoorMA
import Derived.Test.YtgfdmdikiickpaaGreatDoorMF
/-! StateC -/
namespace Go.Proofs.YtgfdmdikiickpaaGreatDoor
open Go.RowKit

set_option maxRecDepth 100000 in
theorem rlet_any (b : Int) (w : World) : Calls Tryz.prog 83 #[.int .u8 b] w fun e w' => e = .returned (.bool (lowK b)) ∧ w = w' := by
  by_cases h : 97 ≤ b
  · have HO := hid (show lowK b = decide (b ≤ 122) by simp [lowK, h])
    go_enter Tryz.func83, Tryz.ntmps83
    go_wp2_with fail
    go_ret
    exact ⟨by rw [HO.out]; rfl, rfl⟩
  · have HO := hid (show lowK b = false by simp [lowK, h])
    go_enter Tryz.func83, Tryz.ntmps83
    go_wp2_with fail
    go_ret
    exact ⟨by rw [HO.out]; rfl, rfl⟩
set_option maxRecDepth 100000 in
theorem rblank_any (b : Int) (w : World) : Calls Tryz.prog 81 #[.int .u8 b] w fun e w' => e = .returned (.bool (b == 32 || b == 9)) ∧ w = w' := by
  go_enter Tryz.func81, Tryz.ntmps81
  go_wp2_with fail
  all_goals go_ret
  all_goals exact ⟨by first | rfl | (simp [*]; done), rfl⟩
def FindRel (w : World) (c : UInt8) (s : List UInt8) (i : Value) (wr : World) : Prop := ∃ k : Nat, i = .int .i64 (k : Int) ∧ k ≤ s.length ∧ Hid (findN c s = k + findN c (s.drop k)) ∧ wr = w
set_option maxRecDepth 100000 in
theorem rfind44_any (s : List UInt8) (c : UInt8) (w : World) (hs : s.length ≤ 9223372036854775806) :
    Calls Tryz.prog 49 #[Sv s, .int .u8 (bi c)] w fun e w' => e = .returned (.int .i64 (findN c s : Int)) ∧ w = w' := by
  go_enter Tryz.func49, Tryz.ntmps49
  go_wp2_with fail
  go_loopw [5] (fun i wr => FindRel w c s i wr) (fun i _ => s.length - (intOf i).toNat)
  case atStart => exact ⟨0, rfl, Nat.zero_le _, hid (by simp), rfl⟩
  case round =>
    obtain ⟨k, rfl, hk, HP, rfl⟩ := hrel
    by_cases hlt : k < s.length
    · have HD := hid (findN_drop c s k hlt)
      have qi : (0 : Int) ≤ (k : Int) ∧ (k : Int) < (s.length : Int) := by omega
      by_cases hb : byteAt s k = bi c
      · have HO := hid (show findN c s = k by rw [HP.out, HD.out, if_pos hb]; rfl)
        have qb : (byteAt s k == bi c) = true := by rw [hb]; simp
        clear hb
        go_wp2_with fail
        go_ret
        exact ⟨by rw [HO.out]; rfl, rfl⟩
      · have HP2 := hid (show findN c s = (k + 1) + findN c (s.drop (k + 1)) by rw [HP.out, HD.out, if_neg hb]; omega)
        have qb : (byteAt s k == bi c) = false := by rw [beq_eq_false_iff_ne]; exact hb
        clear hb
        go_wp2_with fail
        refine ⟨⟨k + 1, by go_num, hlt, HP2, rfl⟩, by simp [intOf] <;> omega⟩
    · obtain rfl : k = s.length := by omega
      have HO := hid (show findN c s = s.length by rw [HP.out, List.drop_length]; rfl)
      go_wp2_with fail
      go_ret
      exact ⟨by rw [HO.out]; rfl, rfl⟩
def AllRelR (w : World) (p : Int → Bool) (s : List UInt8) (i : Value) (wr : World) : Prop := ∃ k : Nat, i = .int .i64 (k : Int) ∧ k ≤ s.length ∧ Hid (allP p s = allP p (s.drop k)) ∧ wr = w
set_option maxRecDepth 100000 in
theorem rkeyed_any (s : List UInt8) (n : Int) (w : World) (hs : s.length ≤ 9223372036854775806) :
    Calls Tryz.prog 82 #[Sv s, .int .i64 n] w fun e w' => e = .returned (.bool (allB inKeyB s n)) ∧ w = w' := by
  go_enter Tryz.func82, Tryz.ntmps82
  go_wp2_with fail
  go_loopw [5] (fun i wr => AllRelR w inKeyB s i wr) (fun i _ => s.length - (intOf i).toNat)
  case atStart => exact ⟨0, rfl, Nat.zero_le _, hid rfl, rfl⟩
  case round =>
    obtain ⟨k, rfl, hk, HP, rfl⟩ := hrel
    by_cases hlt : k < s.length
    · have HD := hid (allP_drop inKeyB s k hlt)
      have qi : (0 : Int) ≤ (k : Int) ∧ (k : Int) < (s.length : Int) := by omega
      have hl := fun u => rlet_any (byteAt s k) u
      obtain ⟨b, hb⟩ : ∃ b, byteAt s k = b := ⟨_, rfl⟩
      have HK := hid (show inKeyB b = (lowK b || (numK b || (b == 95 || (b == 45 || (b == 42 || b == 47))))) from rfl)
      obtain ⟨L, hL⟩ : ∃ L, lowK b = L := ⟨_, rfl⟩
      rw [hb] at HD
      simp only [hb, hL] at hl
      rw [hL] at HK
      clear hL
      cases L with
      | true =>
        have HP2 := hid (show allP inKeyB s = allP inKeyB (s.drop (k + 1)) by rw [HP.out, HD.out, HK.out]; rfl)
        go_wp2_with ((go_at_call 83; refine (hl _).mono ?_; rintro e w' ⟨rfl, rfl⟩))
        refine ⟨⟨k + 1, by go_num, hlt, HP2, rfl⟩, by simp [intOf] <;> omega⟩
      | false =>
        have HN := hid (show numK b = (decide (48 ≤ b) && decide (b ≤ 57)) from rfl)
        have HY := hid (fun (h : inKeyB b = true) => (show allP inKeyB s = allP inKeyB (s.drop (k + 1)) by rw [HP.out, HD.out, h]; rfl))
        have HNO := hid (fun (h : inKeyB b = false) => (show allB inKeyB s n = false by unfold allB; rw [HP.out, HD.out, h]; rfl))
        clear HP HD
        go_wp2_with ((go_at_call 83; refine (hl _).mono ?_; rintro e w' ⟨rfl, rfl⟩))
        all_goals try simp only [bne_iff_ne, ne_eq, bne_eq_false_iff_eq] at *
        all_goals first
          | (go_ret
             exact ⟨by rw [HNO.out (by rw [HK.out, HN.out, ← Bool.not_eq_true]; simp only [Bool.false_or, Bool.or_eq_true, Bool.and_eq_true, decide_eq_true_eq, beq_iff_eq]; omega)]; rfl, rfl⟩)
          | (refine ⟨⟨k + 1, by go_num, hlt, hid (HY.out (by rw [HK.out, HN.out]; simp only [Bool.false_or, Bool.or_eq_true, Bool.and_eq_true, decide_eq_true_eq, beq_iff_eq]; omega)), rfl⟩, by simp [intOf] <;> omega⟩)
    · obtain rfl : k = s.length := by omega
      have HO := hid (show allB inKeyB s n = (decide (1 ≤ s.length) && decide ((s.length : Int) ≤ n)) by unfold allB; rw [HP.out, List.drop_length]; rfl)
      by_cases h1 : 1 ≤ s.length
      · have HO1 := hid (show allB inKeyB s n = decide ((s.length : Int) ≤ n) by rw [HO.out]; simp [h1])
        go_wp2_with fail
        all_goals go_ret
        all_goals exact ⟨by rw [HO1.out]; first | rfl | (simp [*]; done) | (simp [*]; omega), rfl⟩
      · have HO1 := hid (show allB inKeyB s n = false by rw [HO.out]; simp [h1])
        go_wp2_with fail
        all_goals go_ret
        all_goals exact ⟨by rw [HO1.out]; first | rfl | (simp [*]; done) | (simp [*]; omega), rfl⟩
set_option maxRecDepth 100000 in
theorem rvalue44_any (s : List UInt8) (w : World) (hs : s.length ≤ 9223372036854775806) :
    Calls Tryz.prog 52 #[Sv s] w fun e w' => e = .returned (.bool (valB s)) ∧ w = w' := by
  go_enter Tryz.func52, Tryz.ntmps52
  go_wp2_with fail
  go_loopw [3] (fun i wr => AllRelR w inValB s i wr) (fun i _ => s.length - (intOf i).toNat)
  case atStart => exact ⟨0, rfl, Nat.zero_le _, hid rfl, rfl⟩
  case round =>
    obtain ⟨k, rfl, hk, HP, rfl⟩ := hrel
    by_cases hlt : k < s.length
    · have HD := hid (allP_drop inValB s k hlt)
      have qi : (0 : Int) ≤ (k : Int) ∧ (k : Int) < (s.length : Int) := by omega
      have HN := hid (show inValB (byteAt s k) = (decide (32 ≤ byteAt s k) && (decide (byteAt s k ≤ 126) && (!(byteAt s k == 44) && !(byteAt s k == 61)))) from rfl)
      have HY := hid (fun (h : inValB (byteAt s k) = true) => (show allP inValB s = allP inValB (s.drop (k + 1)) by rw [HP.out, HD.out, h]; rfl))
      have HNO := hid (fun (h : inValB (byteAt s k) = false) => (show valB s = false by unfold valB allB; rw [HP.out, HD.out, h]; rfl))
      clear HP HD
      go_wp2_with fail
      all_goals try simp only [ne_eq, beq_iff_eq, beq_eq_false_iff_ne] at *
      all_goals first
        | (go_ret
           exact ⟨by rw [HNO.out (by rw [HN.out, ← Bool.not_eq_true]; simp only [Bool.not_eq_true', Bool.and_eq_true, decide_eq_true_eq, beq_eq_false_iff_ne]; omega)]; rfl, rfl⟩)
        | (refine ⟨⟨k + 1, by go_num, hlt, hid (HY.out (by rw [HN.out]; simp only [Bool.not_eq_true', Bool.and_eq_true, decide_eq_true_eq, beq_eq_false_iff_ne]; omega)), rfl⟩, by simp [intOf] <;> omega⟩)
    · obtain rfl : k = s.length := by omega
      have HO := hid (show valB s = ((decide (1 ≤ s.length) && decide ((s.length : Int) ≤ 256)) && !(byteAt s (s.length - 1) == 32)) by unfold valB allB; rw [HP.out, List.drop_length]; rfl)
      by_cases h1 : 1 ≤ s.length
      · have HO1 := hid (show valB s = (decide ((s.length : Int) ≤ 256) && !(byteAt s (s.length - 1) == 32)) by rw [HO.out]; simp [h1])
        go_wp2_with fail
        all_goals go_ret
        all_goals exact ⟨by rw [HO1.out]; first | rfl | (simp [*, bne]; done) | (simp [*]; omega), rfl⟩
      · have HO1 := hid (show valB s = false by rw [HO.out]; simp [h1])
        go_wp2_with fail
        all_goals go_ret
        all_goals exact ⟨by rw [HO1.out]; first | rfl | (simp [*]; done) | (simp [*]; omega), rfl⟩
end Go.Proofs.YtgfdmdikiickpaaGreatDoor

/-! StateD -/
namespace Go.Proofs.YtgfdmdikiickpaaGreatDoor
open Go.RowKit

theorem ldrop_at (s : List UInt8) (h : 1 ≤ s.length) : ldrop s = if (byteAt s 0 == 32 || byteAt s 0 == 9) = true then ldrop (s.drop 1) else s := by
  have := ldrop_drop s 0 h
  rw [List.drop_zero, blankB_eq, Nat.zero_add] at this
  rw [this, byteAt_getElem s 0 h]
theorem rdrop_at (s : List UInt8) (h : 1 ≤ s.length) : rdrop s = if (byteAt s (s.length - 1) == 32 || byteAt s (s.length - 1) == 9) = true then rdrop (s.take (s.length - 1)) else s := by
  have := rdrop_take s (s.length - 1) (by omega)
  rw [show s.length - 1 + 1 = s.length by omega, List.take_length, blankB_eq] at this
  rw [this, byteAt_getElem s (s.length - 1) (by omega)]
def TrimRel (w : World) (s : List UInt8) (v : Value) (wr : World) : Prop := ∃ l : List UInt8, v = Sv l ∧ l.length ≤ s.length ∧ Hid (ldrop s = ldrop l) ∧ wr = w
def TrimRel2 (w : World) (s : List UInt8) (v : Value) (wr : World) : Prop := ∃ l : List UInt8, v = Sv l ∧ l.length ≤ s.length ∧ Hid (rdrop (ldrop s) = rdrop l) ∧ wr = w
def lenOf : Value → Nat
  | .string s => s.data.size
  | _ => 0
theorem lenOf_Sv (s : List UInt8) : lenOf (Sv s) = s.length := rfl
set_option maxRecDepth 100000 in
theorem rtrim_any (s : List UInt8) (w : World) (hs : s.length ≤ 9223372036854775806) :
    Calls Tryz.prog 50 #[Sv s] w fun e w' => e = .returned (Sv (trimB s)) ∧ w = w' := by
  go_enter Tryz.func50, Tryz.ntmps50
  go_wp2_with fail
  try simp only [string_Sv]
  go_loopw [0] (fun v wr => TrimRel w s v wr) (fun v _ => lenOf v)
  case atStart => exact ⟨s, rfl, Nat.le_refl _, hid rfl, rfl⟩
  case round =>
    obtain ⟨l, rfl, hl, HP, rfl⟩ := hrel
    by_cases h1 : 1 ≤ l.length
    · have HD := hid (ldrop_at l h1)
      have hb := fun u => rblank_any (byteAt l 0) u
      obtain ⟨b, hbb⟩ : ∃ b, (byteAt l 0 == 32 || byteAt l 0 == 9) = b := ⟨_, rfl⟩
      rw [hbb] at HD
      simp only [hbb] at hb
      clear hbb
      cases b with
      | true =>
        have HP2 := hid (show ldrop s = ldrop (l.drop 1) by rw [HP.out, HD.out]; rfl)
        go_wp2_with ((go_at_call 81; refine (hb _).mono ?_; rintro e w' ⟨rfl, rfl⟩))
        refine ⟨⟨l.tail, rfl, by simp; omega, hid (by rw [HP2.out, List.drop_one]), rfl⟩, by rw [lenOf_Sv, lenOf_Sv]; simp; omega⟩
      | false =>
        have HPL := hid (show ldrop s = l by rw [HP.out, HD.out]; rfl)
        go_wp2_with ((go_at_call 81; refine (hb _).mono ?_; rintro e w' ⟨rfl, rfl⟩))
        go_loopw [0] (fun v u => TrimRel2 wr s v u) (fun v _ => lenOf v)
        case atStart => exact ⟨l, rfl, hl, hid (by rw [HPL.out]), rfl⟩
        case round =>
          obtain ⟨m, rfl, hm, HM, rfl⟩ := hrel
          by_cases h2 : 1 ≤ m.length
          · have HD := hid (rdrop_at m h2)
            have hb := fun u => rblank_any (byteAt m (m.length - 1)) u
            obtain ⟨b, hbb⟩ : ∃ b, (byteAt m (m.length - 1) == 32 || byteAt m (m.length - 1) == 9) = b := ⟨_, rfl⟩
            rw [hbb] at HD
            simp only [hbb] at hb
            clear hbb
            cases b with
            | true =>
              have HM2 := hid (show rdrop (ldrop s) = rdrop (m.take (m.length - 1)) by rw [HM.out, HD.out]; rfl)
              go_wp2_with ((go_at_call 81; refine (hb _).mono ?_; rintro e w' ⟨rfl, rfl⟩))
              refine ⟨⟨m.take (m.length - 1), by first | rfl | (congr 1; simp), by simp only [List.length_take]; omega, HM2, rfl⟩, by rw [lenOf_Sv, lenOf_Sv]; simp only [List.length_take]; omega⟩
            | false =>
              have HO := hid (show trimB s = m by unfold trimB; rw [HM.out, HD.out]; rfl)
              go_wp2_with ((go_at_call 81; refine (hb _).mono ?_; rintro e w' ⟨rfl, rfl⟩))
              go_ret
              exact ⟨by rw [HO.out]; rfl, rfl⟩
          · obtain rfl : m = [] := List.length_eq_zero_iff.1 (by omega)
            have HO := hid (show trimB s = [] by unfold trimB; rw [HM.out]; rfl)
            go_wp2_with fail
            go_ret
            exact ⟨by rw [HO.out]; rfl, rfl⟩
    · obtain rfl : l = [] := List.length_eq_zero_iff.1 (by omega)
      have HPL := hid (show ldrop s = [] by rw [HP.out]; rfl)
      clear HP
      go_wp2_with fail
      go_loopw [0] (fun v u => TrimRel2 wr s v u) (fun v _ => lenOf v)
      case atStart => exact ⟨[], rfl, hl, hid (by rw [HPL.out]), rfl⟩
      case round =>
        obtain ⟨m, rfl, hm, HM, rfl⟩ := hrel
        by_cases h2 : 1 ≤ m.length
        · have HD := hid (rdrop_at m h2)
          have hb := fun u => rblank_any (byteAt m (m.length - 1)) u
          obtain ⟨b, hbb⟩ : ∃ b, (byteAt m (m.length - 1) == 32 || byteAt m (m.length - 1) == 9) = b := ⟨_, rfl⟩
          rw [hbb] at HD
          simp only [hbb] at hb
          clear hbb
          cases b with
          | true =>
            have HM2 := hid (show rdrop (ldrop s) = rdrop (m.take (m.length - 1)) by rw [HM.out, HD.out]; rfl)
            go_wp2_with ((go_at_call 81; refine (hb _).mono ?_; rintro e w' ⟨rfl, rfl⟩))
            refine ⟨⟨m.take (m.length - 1), by first | rfl | (congr 1; simp), by simp only [List.length_take]; omega, HM2, rfl⟩, by rw [lenOf_Sv, lenOf_Sv]; simp only [List.length_take]; omega⟩
          | false =>
            have HO := hid (show trimB s = m by unfold trimB; rw [HM.out, HD.out]; rfl)
            go_wp2_with ((go_at_call 81; refine (hb _).mono ?_; rintro e w' ⟨rfl, rfl⟩))
            go_ret
            exact ⟨by rw [HO.out]; rfl, rfl⟩
        · obtain rfl : m = [] := List.length_eq_zero_iff.1 (by omega)
          have HO := hid (show trimB s = [] by unfold trimB; rw [HM.out]; rfl)
          go_wp2_with fail
          go_ret
          exact ⟨by rw [HO.out]; rfl, rfl⟩
set_option maxRecDepth 100000 in
theorem rkey44_any (s : List UInt8) (w : World) (hs : s.length ≤ 4611686018427387904) :
    Calls Tryz.prog 51 #[Sv s] w fun e w' => e = .returned (.bool (keyB s)) ∧ Below w.heap.size w w' := by
  have hle := findN_le 64 s
  have hfind : ∀ u, Calls Tryz.prog 49 #[Sv s, .int .u8 64] u fun e w' => e = .returned (.int .i64 (findN 64 s : Int)) ∧ u = w' := fun u => rfind44_any s 64 u (by omega)
  obtain ⟨K, hK⟩ : ∃ K, keyB s = K := ⟨_, rfl⟩
  rw [hK]
  unfold keyB at hK
  have HO := hid hK.symm
  clear hK
  obtain ⟨k, hk⟩ : ∃ k, findN 64 s = k := ⟨_, rfl⟩
  rw [hk] at HO hle
  simp only [hk] at hfind
  clear hk
  go_enter Tryz.func51, Tryz.ntmps51
  by_cases h : k = s.length
  · subst h
    rw [if_pos rfl] at HO
    have ha := fun u => rkeyed_any s 256 u (by omega)
    obtain ⟨b, hb⟩ : ∃ b, allB inKeyB s 256 = b := ⟨_, rfl⟩
    rw [hb] at HO
    simp only [hb] at ha
    cases b with
    | false =>
      clear hb
      go_wp2_with (first
        | (go_at_call 49; refine (hfind _).mono ?_; rintro e w2 ⟨rfl, rfl⟩)
        | (go_at_call 82; refine (ha _).mono ?_; rintro e w3 ⟨rfl, rfl⟩))
      go_ret
      exact ⟨by rw [HO.out]; rfl, Below.refl _ _⟩
    | true =>
      have h1 := allB_pos hb
      clear hb
      go_wp2_with (first
        | (go_at_call 49; refine (hfind _).mono ?_; rintro e w2 ⟨rfl, rfl⟩)
        | (go_at_call 82; refine (ha _).mono ?_; rintro e w3 ⟨rfl, rfl⟩)
        | (go_at_call 83; refine (rlet_any _ _).mono ?_; rintro e w4 ⟨rfl, rfl⟩))
      go_ret
      exact ⟨by rw [HO.out]; rfl, Below.refl _ _⟩
  · rw [if_neg h] at HO
    have qk : ((k : Int) == (s.length : Int)) = false := by rw [beq_eq_false_iff_ne]; omega
    have q1 : (0 : Int) ≤ (k : Int) ∧ (k : Int) ≤ (s.length : Int) := by omega
    have q2 : (0 : Int) ≤ (k : Int) + 1 ∧ (k : Int) + 1 ≤ (s.length : Int) := by omega
    have qw : IntKind.i64.wrap ((k : Int) + 1) = (k : Int) + 1 := IntWalk.i64_in _ (by omega)
    have q3 : ((k : Int) + 1).toNat = k + 1 := by omega
    go_upto_region 4 with ((go_at_call 49; refine (hfind _).mono ?_; rintro e w2 ⟨rfl, rfl⟩))
    refine region_steady (fun u => Below w.heap.size w u) (by kernel_rfl) (by kernel_rfl) (ext_drew _) ?_
    repeat (first
      | (refine steady_off (by rfl) ?_; try simp only [Act.put, List.setIfInBounds_toArray, List.set_cons_zero, List.set_cons_succ])
      | (refine steady_pure (v := ?_) (by rfl) ?_ ?_; rotate_left; (focus (intro u; go_simp; with_reducible rfl)); try simp only [Act.put, List.setIfInBounds_toArray, List.set_cons_zero, List.set_cons_succ]))
    refine steady_nil (fun w1 h1 => ?_)
    have HB := hid h1
    clear h1 qk q1 q2 qw q3
    have hA : (s.take k).length ≤ s.length := by simp only [List.length_take]; omega
    have hD : (s.drop (k + 1)).length ≤ s.length := by simp only [List.length_drop]; omega
    generalize s.take k = A at *
    generalize s.drop (k + 1) = D at *
    have ha := fun u => rkeyed_any A 241 u (by omega)
    have hd := fun u => rkeyed_any D 14 u (by omega)
    have hlo := fun u => rlet_any (byteAt A 0) u
    have hlo2 := fun u => rlet_any (byteAt D 0) u
    clear h hle hfind
    obtain ⟨b, hb⟩ : ∃ b, allB inKeyB A 241 = b := ⟨_, rfl⟩
    obtain ⟨d, hd0⟩ : ∃ d, allB inKeyB D 14 = d := ⟨_, rfl⟩
    obtain ⟨l, hl⟩ : ∃ l, lowK (byteAt A 0) = l := ⟨_, rfl⟩
    obtain ⟨l2, hl2⟩ : ∃ l2, lowK (byteAt D 0) = l2 := ⟨_, rfl⟩
    rw [hb, hd0, hl, hl2] at HO
    simp only [hb] at ha
    simp only [hd0] at hd
    simp only [hl] at hlo
    simp only [hl2] at hlo2
    clear hl hl2
    cases b with
    | false =>
      clear hb hd0
      go_wp2_with ((go_at_call 82; (with_reducible refine (ha _).mono ?_); rintro e w3 ⟨rfl, rfl⟩))
      go_ret
      exact ⟨by rw [HO.out]; rfl, HB.out⟩
    | true =>
      have h1 := allB_pos hb
      have HP := hid (fun h => allB_pos (hd0.trans h))
      clear hb hd0
      have HN := hid (show numK (byteAt A 0) = (decide (48 ≤ byteAt A 0) && decide (byteAt A 0 ≤ 57)) from rfl)
      cases d with
      | false =>
        have HO2 := hid (show K = false by rw [HO.out]; simp)
        cases l with
        | true =>
          go_wp2_with (first
          | (go_at_call 82; (with_reducible refine (ha _).mono ?_); rintro e w3 ⟨rfl, rfl⟩)
          | (go_at_call 83; (with_reducible refine (hlo _).mono ?_); rintro e w4 ⟨rfl, rfl⟩)
          | (go_at_call 82; (with_reducible refine (hd _).mono ?_); rintro e w5 ⟨rfl, rfl⟩)
          | (go_at_call 83; (with_reducible refine (hlo2 _).mono ?_); rintro e w6 ⟨rfl, rfl⟩))
          go_ret
          exact ⟨by rw [HO2.out]; rfl, HB.out⟩
        | false =>
          go_wp2_with (first
          | (go_at_call 82; (with_reducible refine (ha _).mono ?_); rintro e w3 ⟨rfl, rfl⟩)
          | (go_at_call 83; (with_reducible refine (hlo _).mono ?_); rintro e w4 ⟨rfl, rfl⟩)
          | (go_at_call 82; (with_reducible refine (hd _).mono ?_); rintro e w5 ⟨rfl, rfl⟩)
          | (go_at_call 83; (with_reducible refine (hlo2 _).mono ?_); rintro e w6 ⟨rfl, rfl⟩))
          all_goals go_ret
          all_goals exact ⟨by rw [HO2.out]; rfl, HB.out⟩
      | true =>
        have h2 := HP.out rfl
        cases l with
        | true =>
          go_wp2_with (first
          | (go_at_call 82; (with_reducible refine (ha _).mono ?_); rintro e w3 ⟨rfl, rfl⟩)
          | (go_at_call 83; (with_reducible refine (hlo _).mono ?_); rintro e w4 ⟨rfl, rfl⟩)
          | (go_at_call 82; (with_reducible refine (hd _).mono ?_); rintro e w5 ⟨rfl, rfl⟩)
          | (go_at_call 83; (with_reducible refine (hlo2 _).mono ?_); rintro e w6 ⟨rfl, rfl⟩))
          go_ret
          exact ⟨by rw [HO.out]; rfl, HB.out⟩
        | false =>
          go_wp2_with (first
          | (go_at_call 82; (with_reducible refine (ha _).mono ?_); rintro e w3 ⟨rfl, rfl⟩)
          | (go_at_call 83; (with_reducible refine (hlo _).mono ?_); rintro e w4 ⟨rfl, rfl⟩)
          | (go_at_call 82; (with_reducible refine (hd _).mono ?_); rintro e w5 ⟨rfl, rfl⟩)
          | (go_at_call 83; (with_reducible refine (hlo2 _).mono ?_); rintro e w6 ⟨rfl, rfl⟩))
          all_goals go_ret
          all_goals exact ⟨by rw [HO.out, HN.out]; first | rfl | (simp [*]; done) | (simp [*]; omega), HB.out⟩
end Go.Proofs.YtgfdmdikiickpaaGreatDoor

/-! StateF -/
namespace Go.Proofs.YtgfdmdikiickpaaGreatDoor
open Go.RowKit

theorem neq_of {m m' : Mb} : (!(m == m')) = (!(m.1 == m'.1) || !(m.2 == m'.2)) := by
  obtain ⟨a, b⟩ := m
  obtain ⟨c, d⟩ := m'
  show (!((a == c) && (b == d))) = _
  cases (a == c) <;> cases (b == d) <;> rfl
def IdxRelR (w : World) (L : List Mb) (key : List UInt8) (i : Value) (wr : World) : Prop := ∃ k : Nat, i = .int .i64 (k : Int) ∧ k ≤ L.length ∧ Hid (hasM (L.take k) key = false) ∧ wr = w
set_option maxRecDepth 100000 in
set_option maxHeartbeats 1000000 in
theorem rget44_any (A : Option Addr) (cap : Nat) (L : List Mb) (key : List UInt8) (w : World) (h : Mbs w w.heap.size A L) (hl : L.length ≤ 1000000) :
    Calls Tryz.prog 53 #[.slice A L.length cap, Sv key] w fun e w' => e = .returned (.tuple #[Sv (getM L key), .bool (hasM L key)]) ∧ w = w' := by
  have HO := hid h
  clear h
  go_enter Tryz.func53, Tryz.ntmps53
  go_wp2_with fail
  go_loopw [6] (fun i wr => IdxRelR w L key i wr) (fun i _ => L.length - (intOf i).toNat)
  case atStart => exact ⟨0, rfl, Nat.zero_le _, hid rfl, rfl⟩
  case round =>
    obtain ⟨k, rfl, hk, HN, rfl⟩ := hrel
    by_cases hlk : k < L.length
    · obtain ⟨m, hm⟩ := get_lt hlk
      obtain ⟨ad, hA, p0, p1⟩ := HO.out.at_ hm
      have HM := hid hm
      clear hm
      subst hA
      have qi : (0 : Int) ≤ (k : Int) ∧ (k : Int) < (L.length : Int) := by omega
      obtain ⟨b, hb⟩ : ∃ b, (m.1 == key) = b := ⟨_, rfl⟩
      have HBB := hid hb
      cases b with
      | true =>
        have HR := hid (idxM_hit HM.out HBB.out HN.out).2
        go_wp2_with fail
        go_ret2
        exact ⟨by rw [HR.out.1, HR.out.2]; rfl, rfl⟩
      | false =>
        have HN2 := hid (show hasM (L.take (k + 1)) key = false by rw [take_snoc_at HM.out, hasM_snoc, HN.out, HBB.out]; rfl)
        go_wp2_with fail
        refine ⟨⟨k + 1, by go_num, hlk, HN2, rfl⟩, by simp [intOf] <;> omega⟩
    · obtain rfl : k = L.length := by omega
      have hno : hasM L key = false := by have := HN.out; rwa [List.take_length] at this
      have HH := hid hno
      have HR := hid (idxM_miss hno).2
      clear hno
      go_wp2_with fail
      go_ret2
      exact ⟨by rw [HR.out, HH.out]; rfl, rfl⟩
theorem guard_rm : Tryz.prog.eqGuardType Tryz.prog.depth 81 = false := by kernel_rfl
@[go_sem] theorem run_eqGuard_rm (w : World) (op : BinOp) (x y : Operand) (a b c d : List UInt8) : (eqGuard op 81 x y (.agg #[Sv a, Sv b]) (.agg #[Sv c, Sv d])).run Tryz.prog w = .ok () w := run_eqGuard_agg w op _ x y _ _ guard_rm
set_option maxRecDepth 100000 in
theorem run_neq_rm (u : World) (a b c d : List UInt8) : (binOp .neq 81 (.agg #[Sv a, Sv b]) (.agg #[Sv c, Sv d])).run Tryz.prog u = .ok (.bool (!(a == c) || !(b == d))) u := by
  by_cases h : (a == c) = true
  · by_cases h2 : (b == d) = true
    · have e : b = d := by simpa using h2
      subst e
      go_simp
    · have h2' : (b == d) = false := by simpa using h2
      have e : ¬ b = d := by simpa using h2
      go_simp
  · have h' : (a == c) = false := by simpa using h
    go_simp
theorem load_rm (w : World) (p : Addr) (m : Mb) (h0 : w.cell? p = some (Sv m.1)) (h1 : w.cell? ⟨p.block, p.off + 1, none⟩ = some (Sv m.2)) : (Instr.loadAt 81 (.pointer (some p))).run Tryz.prog w = .ok (.agg #[Sv m.1, Sv m.2]) w := by
  go_simp
def SameRel (w : World) (L M : List Mb) (i : Value) (wr : World) : Prop := ∃ k : Nat, i = .int .i64 (k : Int) ∧ k ≤ L.length ∧ Hid (L.take k = M.take k) ∧ Hid (Below w.heap.size w wr)
set_option maxRecDepth 100000 in
set_option maxHeartbeats 1000000 in
theorem rsame_any (A A' : Option Addr) (cap cap' : Nat) (L M : List Mb) (w : World) (h : Mbs w w.heap.size A L) (h' : Mbs w w.heap.size A' M) (hl : L.length ≤ 1000000) :
    Calls Tryz.prog 12 #[.slice A L.length cap, .slice A' M.length cap'] w fun e w' => e = .returned (.bool (decide (L = M))) ∧ Below w.heap.size w w' := by
  have HO := hid h
  have HO' := hid h'
  clear h h'
  by_cases hlen : L.length = M.length
  · have HL := hid hlen
    have e1 : M.length = L.length := hlen.symm
    rw [e1]
    clear e1 hlen
    go_enter Tryz.func12, Tryz.ntmps12
    go_wp2_with fail
    go_loopw [5] (fun i wr => SameRel w L M i wr) (fun i _ => L.length - (intOf i).toNat)
    case atStart => exact ⟨0, rfl, Nat.zero_le _, hid rfl, hid (Below.refl _ _)⟩
    case round =>
      obtain ⟨k, rfl, hk, HT, HB⟩ := hrel
      by_cases hlk : k < L.length
      · obtain ⟨m, hm⟩ := get_lt hlk
        obtain ⟨m', hm'⟩ := get_lt (L := M) (k := k) (by have := HL.out; omega)
        obtain ⟨ad, hA, _⟩ := (HO.out.below HB.out).at_ hm
        obtain ⟨ad', hA', _⟩ := (HO'.out.below HB.out).at_ hm'
        have HM := hid hm
        have HM' := hid hm'
        clear hm hm'
        subst hA hA'
        have qi : (0 : Int) ≤ (k : Int) ∧ (k : Int) < (L.length : Int) := by omega
        go_upto_region 6 with fail
        refine region_steady (fun u => Below w.heap.size w u) (by kernel_rfl) (by kernel_rfl) (HB.out.trans ((ext_drew wr).mono HB.out.size)) ?_
        repeat (first
          | (refine steady_off (by rfl) ?_; try simp only [Act.put, List.setIfInBounds_toArray, List.set_cons_zero, List.set_cons_succ])
          | (refine steady_pure (v := ?_) (by rfl) ?_ ?_; rotate_left; (focus (intro u; go_simp; with_reducible rfl)); try simp only [Act.put, List.setIfInBounds_toArray, List.set_cons_zero, List.set_cons_succ]))
        refine steady_load (v := .agg #[Sv m.1, Sv m.2]) 81 (.tmp 19) rfl (by rfl) (fun u h => by
          obtain ⟨a, ha, c0, c1⟩ := (HO.out.below h).at_ HM.out
          obtain rfl := Option.some.inj ha
          exact load_rm u _ m c0 c1) ?_
        try simp only [Act.put, List.setIfInBounds_toArray, List.set_cons_zero, List.set_cons_succ]
        repeat (first
          | (refine steady_off (by rfl) ?_; try simp only [Act.put, List.setIfInBounds_toArray, List.set_cons_zero, List.set_cons_succ])
          | (refine steady_pure (v := ?_) (by rfl) ?_ ?_; rotate_left; (focus (intro u; go_simp; with_reducible rfl)); try simp only [Act.put, List.setIfInBounds_toArray, List.set_cons_zero, List.set_cons_succ]))
        refine steady_load (v := .agg #[Sv m'.1, Sv m'.2]) 81 (.tmp 23) rfl (by rfl) (fun u h => by
          obtain ⟨a, ha, c0, c1⟩ := (HO'.out.below h).at_ HM'.out
          obtain rfl := Option.some.inj ha
          exact load_rm u _ m' c0 c1) ?_
        try simp only [Act.put, List.setIfInBounds_toArray, List.set_cons_zero, List.set_cons_succ]
        have qn := fun u => run_neq_rm u m.1 m.2 m'.1 m'.2
        obtain ⟨b, hb⟩ : ∃ b, (!(m.1 == m'.1) || !(m.2 == m'.2)) = b := ⟨_, rfl⟩
        simp only [hb] at qn
        rw [← neq_of] at hb
        have HBB := hid hb
        clear hb
        repeat (first
          | (refine steady_off (by rfl) ?_; try simp only [Act.put, List.setIfInBounds_toArray, List.set_cons_zero, List.set_cons_succ])
          | (refine steady_pure (v := ?_) (by rfl) ?_ ?_; rotate_left; (focus (intro u; go_simp; with_reducible rfl)); try simp only [Act.put, List.setIfInBounds_toArray, List.set_cons_zero, List.set_cons_succ]))
        refine steady_nil (fun w1 h1 => ?_)
        have HB1 := hid h1
        clear h1 qn
        cases b with
        | true =>
          have HR := hid (show decide (L = M) = false by
            rw [decide_eq_false_iff_not]
            rintro rfl
            have := HM.out.symm.trans HM'.out
            obtain rfl := Option.some.inj this
            have := HBB.out
            simp at this)
          go_wp2_with fail
          go_ret
          exact ⟨by rw [HR.out]; rfl, HB1.out⟩
        | false =>
          have HT2 := hid (show L.take (k + 1) = M.take (k + 1) by
            have e : m = m' := by have := HBB.out; simpa using this
            rw [take_snoc_at HM.out, take_snoc_at HM'.out, HT.out, e])
          go_wp2_with fail
          refine ⟨⟨k + 1, by go_num, hlk, HT2, HB1⟩, by simp [intOf] <;> omega⟩
      · obtain rfl : k = L.length := by omega
        have HR := hid (show decide (L = M) = true by
          rw [decide_eq_true_eq]
          have := HT.out
          rw [List.take_length, HL.out, List.take_length] at this
          exact this)
        go_wp2_with fail
        go_ret
        exact ⟨by rw [HR.out]; rfl, HB.out⟩
  · have HR := hid (show decide (L = M) = false by
      rw [decide_eq_false_iff_not]
      rintro rfl
      exact hlen rfl)
    have q : ((L.length : Int) == (M.length : Int)) = false := by rw [beq_eq_false_iff_ne]; omega
    go_enter Tryz.func12, Tryz.ntmps12
    go_wp2_with fail
    go_ret
    exact ⟨by rw [HR.out]; rfl, Below.refl _ _⟩
end Go.Proofs.YtgfdmdikiickpaaGreatDoor

/-! StateG -/
namespace Go.Proofs.YtgfdmdikiickpaaGreatDoor
open Go.RowKit

theorem flatM_app (a b : List Mb) : flatM (a ++ b) = flatM a ++ flatM b := by simp [flatM]
def CopyRel (w : World) (T : TypeId) (L : List Mb) (v i : Value) (wr : World) : Prop := ∃ (v' : Value) (k : Nat), v' = v ∧ i = .int .i64 (k : Int) ∧ k ≤ L.length ∧ Hid (OwnM wr w.heap.size T v' (L.take k)) ∧ Hid (Below w.heap.size w wr)
set_option maxRecDepth 100000 in
set_option maxHeartbeats 1000000 in
theorem own44_any (A : Option Addr) (cap : Nat) (L : List Mb) (w : World) (h : Mbs w w.heap.size A L) (hl : L.length ≤ 100000) :
    Calls Tryz.prog 17 #[.slice A L.length cap] w fun e w' => ∃ v, e = .returned v ∧ OwnM w' w.heap.size 82 v L ∧ Below w.heap.size w w' := by
  have HO := hid h
  clear h
  go_enter Tryz.func17, Tryz.ntmps17
  go_wp2_with fail
  go_loopw [3, 4] (fun v i wr => CopyRel w 82 L v i wr) (fun _ i _ => L.length - (intOf i).toNat)
  case atStart => exact ⟨_, 0, rfl, rfl, Nat.zero_le _, OwnM.nil _ _ _, Below.refl _ _⟩
  case round =>
    obtain ⟨v', k, hv, rfl, hk, HW, HB⟩ := hrel
    subst hv
    by_cases hlt : k < L.length
    · obtain ⟨m, hm⟩ := get_lt hlt
      obtain ⟨ad, hA, p0, p1⟩ := (HO.out.below HB.out).at_ hm
      have HM := hid hm
      clear hm
      subst hA
      have qi : (0 : Int) ≤ (k : Int) ∧ (k : Int) < (L.length : Int) := by omega
      have hkl : (L.take k).length ≤ 1000000 := by rw [List.length_take]; omega
      have HO7 := hid (HW.out.ext (ext_alloc wr (.cells #[Sv m.1, Sv m.2] 82)))
      have HBK := hid (Blk.new wr 82 (mcs m))
      have HB7 := hid (HB.out.alloc HB.out.size (.cells #[Sv m.1, Sv m.2] 82))
      go_wp2_with (refine wpList_appM rfl _ _ _ _ Tryz.underlying32 info_sm rfl w.heap.size v' (L.take k) rfl HO7.out wr.heap.size 1 82 m rfl HBK.out hkl HB7.out.size ?_; intro v8 w8 hown8 hg8; have HO8 := hid hown8; have HB8 := hid (show Below w.heap.size w w8 from Below.grown HB7.out hg8 HB7.out.size (fun k hk => (World.ownsRow.lt HO7.out k hk).1)); clear hown8 hg8)
      refine ⟨⟨v8, k + 1, rfl, by go_num, hlt, hid ?_, HB8⟩, by simp [intOf] <;> omega⟩
      rw [take_snoc_at HM.out]; exact HO8.out
    · obtain rfl : k = L.length := by omega
      have HW := hid (show OwnM wr w.heap.size 82 v' L by have := HW.out; rwa [List.take_length] at this)
      go_wp2_with fail
      go_ret
      exact ⟨_, rfl, HW.out, HB.out⟩
set_option maxRecDepth 100000 in
set_option maxHeartbeats 1000000 in
theorem back44_any (A : Option Addr) (cap : Nat) (L : List Mb) (w : World) (h : Mbs w w.heap.size A L) (hl : L.length ≤ 100000) :
    Calls Tryz.prog 13 #[.slice A L.length cap] w fun e w' => ∃ v, e = .returned v ∧ OwnM w' w.heap.size 81 v L ∧ Below w.heap.size w w' := by
  have HO := hid h
  clear h
  go_enter Tryz.func13, Tryz.ntmps13
  go_wp2_with fail
  go_loopw [3, 4] (fun v i wr => CopyRel w 81 L v i wr) (fun _ i _ => L.length - (intOf i).toNat)
  case atStart => exact ⟨_, 0, rfl, rfl, Nat.zero_le _, OwnM.nil _ _ _, Below.refl _ _⟩
  case round =>
    obtain ⟨v', k, hv, rfl, hk, HW, HB⟩ := hrel
    subst hv
    by_cases hlt : k < L.length
    · obtain ⟨m, hm⟩ := get_lt hlt
      obtain ⟨ad, hA, p0, p1⟩ := (HO.out.below HB.out).at_ hm
      have HM := hid hm
      clear hm
      subst hA
      have qi : (0 : Int) ≤ (k : Int) ∧ (k : Int) < (L.length : Int) := by omega
      have hkl : (L.take k).length ≤ 1000000 := by rw [List.length_take]; omega
      have HO7 := hid (HW.out.ext (ext_alloc wr (.cells #[Sv m.1, Sv m.2] 81)))
      have HBK := hid (Blk.new wr 81 (mcs m))
      have HB7 := hid (HB.out.alloc HB.out.size (.cells #[Sv m.1, Sv m.2] 81))
      go_wp2_with (refine wpList_appM rfl _ _ _ _ Tryz.underlying38 info_rm rfl w.heap.size v' (L.take k) rfl HO7.out wr.heap.size 1 81 m rfl HBK.out hkl HB7.out.size ?_; intro v8 w8 hown8 hg8; have HO8 := hid hown8; have HB8 := hid (show Below w.heap.size w w8 from Below.grown HB7.out hg8 HB7.out.size (fun k hk => (World.ownsRow.lt HO7.out k hk).1)); clear hown8 hg8)
      refine ⟨⟨v8, k + 1, rfl, by go_num, hlt, hid ?_, HB8⟩, by simp [intOf] <;> omega⟩
      rw [take_snoc_at HM.out]; exact HO8.out
    · obtain rfl : k = L.length := by omega
      have HW := hid (show OwnM wr w.heap.size 81 v' L by have := HW.out; rwa [List.take_length] at this)
      go_wp2_with fail
      go_ret
      exact ⟨_, rfl, HW.out, HB.out⟩
end Go.Proofs.YtgfdmdikiickpaaGreatDoor

/-! StateI -/
namespace Go.Proofs.YtgfdmdikiickpaaGreatDoor
open Go.RowKit

/-- The letters of all members. -/
def sizeM (L : List Mb) : Nat := (L.map fun m => m.1.length + m.2.length).sum
theorem sizeM_snoc (L : List Mb) (m : Mb) : sizeM (L ++ [m]) = sizeM L + (m.1.length + m.2.length) := by simp [sizeM]
theorem sizeM_take (L : List Mb) (k : Nat) : sizeM (L.take k) ≤ sizeM L := by
  have e : sizeM L = sizeM (L.take k) + sizeM (L.drop k) := by
    unfold sizeM
    rw [← List.sum_append, ← List.map_append, List.take_append_drop]
  omega
theorem memT_len (m : Mb) : (memT m).length = m.1.length + m.2.length + 1 := by unfold memT; simp; omega
theorem textS_len : ∀ L : List Mb, (textS L).length ≤ sizeM L + 2 * L.length
  | [] => by simp [textS, Lib.join, List.intercalate]
  | m :: L => by
    have ih := textS_len L
    have e : textS (m :: L) = memT m ++ (if L = [] then [] else 44 :: textS L) := by
      cases L with
      | nil => simp [textS, Lib.join, List.intercalate]
      | cons n r => unfold textS Lib.join; simp [List.intercalate]
    rw [e, List.length_append, memT_len]
    have e2 : sizeM (m :: L) = m.1.length + m.2.length + sizeM L := by simp [sizeM]
    rw [e2, List.length_cons]
    split
    · simp; omega
    · simp only [List.length_cons]; omega
def TxtRel (w : World) (L : List Mb) (v i : Value) (wr : World) : Prop := ∃ (v' : Value) (k : Nat), v' = v ∧ i = .int .i64 (k : Int) ∧ k ≤ L.length ∧ Hid (OwnS wr w.heap.size v' ((L.take k).map memT)) ∧ Hid (Below w.heap.size w wr)
set_option maxRecDepth 100000 in
set_option maxHeartbeats 4000000 in
theorem stext_any (A : Option Addr) (cap : Nat) (L : List Mb) (w : World) (h : Mbs w w.heap.size A L) (hl : L.length ≤ 100000) (hsz : sizeM L ≤ 1000000000000) :
    Calls Tryz.prog 38 #[.slice A L.length cap] w fun e w' => e = .returned (Sv (textS L)) ∧ Below w.heap.size w w' := by
  have HO := hid h
  have HTL := hid (textS_len L)
  clear h
  go_enter Tryz.func38, Tryz.ntmps38
  go_wp2_with fail
  try simp only [string_Sv]
  go_loopw [3, 8] (fun v i wr => TxtRel w L v i wr) (fun _ i _ => L.length - (intOf i).toNat)
  case atStart => exact ⟨_, 0, rfl, rfl, Nat.zero_le _, OwnS.nil _ _, Below.refl _ _⟩
  case round =>
    obtain ⟨v', k, hv, rfl, hk, HW, HB⟩ := hrel
    subst hv
    by_cases hlt : k < L.length
    · obtain ⟨m, hm⟩ := get_lt hlt
      obtain ⟨ad, hA, p0, p1⟩ := (HO.out.below HB.out).at_ hm
      have hm1 : m.1.length + m.2.length ≤ sizeM L := by
        have e1 := sizeM_take L (k + 1)
        rw [take_snoc_at hm, sizeM_snoc] at e1
        omega
      have HM := hid hm
      clear hm
      subst hA
      have qi : (0 : Int) ≤ (k : Int) ∧ (k : Int) < (L.length : Int) := by omega
      have hl1 : m.1.length ≤ 1000000000000 := by omega
      have hl2 : m.2.length ≤ 1000000000000 := by omega
      have HB3 := hid (HB.out.alloc HB.out.size (.cells #[Sv m.1, Sv m.2] 82))
      have HW3 := hid (HW.out.ext (ext_alloc wr (.cells #[Sv m.1, Sv m.2] 82)))
      have HE := hid (show memT m = m.1 ++ 61 :: m.2 from rfl)
      have HW7 := hid (HW3.out.ext (ext_alloc _ (.cells #[Sv (memT m)] 9)))
      have HB7 := hid (HB3.out.alloc HB3.out.size (.cells #[Sv (memT m)] 9))
      have HC7 := hid (show ((wr.alloc (.cells #[Sv m.1, Sv m.2] 82)).alloc (.cells #[Sv (memT m)] 9)).cell? ⟨wr.heap.size + 1, 0, none⟩ = some (Sv (memT m)) by have h := (Blk.new (wr.alloc (.cells #[Sv m.1, Sv m.2] 82)) 9 #[Sv (memT m)]).cell 0; rw [size_alloc] at h; exact h)
      rw [HE.out] at HW7 HB7 HC7
      have hcl : ((L.take k).map memT).length + 1 ≤ 8796093022208 := by rw [List.length_map, List.length_take]; omega
      go_wp2_with (refine wpList_appS rfl rfl w.heap.size v' ((L.take k).map memT) rfl HW7.out (m.1 ++ 61 :: m.2) rfl HC7.out hcl HB7.out.size ?_; intro v8 w8 hown8 hg8; have HO8 := hid hown8; have HB8 := hid (show Below w.heap.size w w8 from Below.grown HB7.out hg8 HB7.out.size (fun k hk => (World.ownsRow.lt HW7.out k hk).1)); clear hown8 hg8)
      refine ⟨⟨v8, k + 1, rfl, by go_num, hlt, hid ?_, HB8⟩, by simp [intOf] <;> omega⟩
      rw [take_snoc_at HM.out, List.map_append, List.map_singleton, HE.out]; exact HO8.out
    · obtain rfl : k = L.length := by omega
      have HW := hid (show OwnS wr w.heap.size v' (L.map memT) by have := HW.out; rwa [List.take_length] at this)
      rcases HW.out.form with ⟨hnil, hv0⟩ | ⟨g, c, hv0, hg, hle, hcm⟩
      · have HE := hid (show textS L = [] by unfold textS; rw [hnil]; simp [Lib.join, List.intercalate])
        subst hv0
        clear hnil
        go_wp2_with fail
        refine (sjoin_none none 0 [44] _).mono ?_; rintro e w2 ⟨rfl, rfl⟩
        go_wp2_with fail
        go_ret
        exact ⟨by rw [HE.out]; rfl, HB.out⟩
      · subst hv0
        have hj := sjoin_any g c (L.map memT) [44] wr (fun j x hx => HW.out.at_ rfl hx) (World.ownsRow.lt HW.out g rfl).2 (by rw [List.length_map]; omega) hle (by show (textS L).length ≤ _; have := HTL.out; omega)
        have hj' : Calls Tryz.prog 58 #[.slice (some ⟨g, 0, none⟩) (L.map memT).length c, Sv [44]] wr fun e w' => e = .returned (Sv (textS L)) ∧ Below wr.heap.size wr w' := hj
        clear hj
        obtain ⟨T, hT⟩ : ∃ T, textS L = T := ⟨_, rfl⟩
        rw [hT] at hj'
        have HT := hid hT
        clear hT
        generalize (L.map memT).length = N at hj' ⊢
        go_wp2_with fail
        refine hj'.mono ?_; rintro e w2 ⟨rfl, hb2⟩
        have HB2 := hid (HB.out.trans (hb2.mono HB.out.size))
        clear hb2 hj'
        go_wp2_with fail
        go_ret
        exact ⟨by rw [HT.out]; rfl, HB2.out⟩
def TxtRelR (w : World) (L : List Mb) (v i : Value) (wr : World) : Prop := ∃ (T : List UInt8) (k : Nat), v = Sv T ∧ i = .int .i64 (k : Int) ∧ k ≤ L.length ∧ Hid (T = textS (L.take k)) ∧ Hid (Below w.heap.size w wr)
theorem load_sv {w : World} {p : Addr} {s : List UInt8} (h : w.cell? p = some (Sv s)) : (Instr.loadAt 9 (.pointer (some p))).run Tryz.prog w = .ok (Sv s) w := by go_simp
theorem list_no {α : Type} {L : List α} {k : Nat} (h : k < L.length) (h0 : k ≠ 0) : L.take k ≠ [] := by
  intro e
  have := congrArg List.length e
  rw [List.length_take, List.length_nil] at this
  omega
set_option maxRecDepth 100000 in
set_option maxHeartbeats 4000000 in
theorem rtext44_any (A : Option Addr) (cap : Nat) (L : List Mb) (w : World) (h : Mbs w w.heap.size A L) (hl : L.length ≤ 100000) (hsz : sizeM L ≤ 1000000000000000000) :
    Calls Tryz.prog 43 #[.slice A L.length cap] w fun e w' => e = .returned (Sv (textS L)) ∧ Below w.heap.size w w' := by
  have HO := hid h
  clear h
  go_enter Tryz.func43, Tryz.ntmps43
  go_wp2_with fail
  try simp only [string_Sv]
  go_loopw [3, 4] (fun v i wr => TxtRelR w L v i wr) (fun _ i _ => L.length - (intOf i).toNat)
  case atStart => exact ⟨[], 0, rfl, rfl, Nat.zero_le _, hid rfl, Below.refl _ _⟩
  case round =>
    obtain ⟨T, k, rfl, rfl, hk, HT, HB⟩ := hrel
    have hTl : T.length ≤ sizeM L + 2 * L.length := by
      rw [HT.out]
      have e1 := textS_len (L.take k)
      have e2 := sizeM_take L k
      rw [List.length_take] at e1
      omega
    by_cases hlt : k < L.length
    · obtain ⟨m, hm⟩ := get_lt hlt
      obtain ⟨ad, hA, p0, p1⟩ := (HO.out.below HB.out).at_ hm
      have hm1 : m.1.length + m.2.length ≤ sizeM L := by
        have e1 := sizeM_take L (k + 1)
        rw [take_snoc_at hm, sizeM_snoc] at e1
        omega
      have HM := hid hm
      clear hm p0 p1
      subst hA
      have qi : (0 : Int) ≤ (k : Int) ∧ (k : Int) < (L.length : Int) := by omega
      by_cases h0 : k = 0
      · subst h0
        have hT0 : T = [] := HT.out
        subst hT0
        have HT2 := hid (show textS (L.take 1) = [] ++ m.1 ++ [61] ++ m.2 by rw [take_snoc_at HM.out, textS_snoc]; simp [memT])
        go_upto_region 7 with fail
        refine region_steady (fun u => Below w.heap.size w u) (by kernel_rfl) (by kernel_rfl) (HB.out.trans ((ext_drew wr).mono HB.out.size)) ?_
        repeat (first
          | (refine steady_off (by rfl) ?_; try simp only [Act.put, List.setIfInBounds_toArray, List.set_cons_zero, List.set_cons_succ])
          | (refine steady_pure (v := ?_) (by rfl) ?_ ?_; rotate_left; (focus (intro u; go_simp; with_reducible rfl)); try simp only [Act.put, List.setIfInBounds_toArray, List.set_cons_zero, List.set_cons_succ]))
        refine steady_load (v := Sv m.1) 9 (.tmp 19) rfl (by rfl) (fun u h => by
          obtain ⟨a, ha, c0, c1⟩ := (HO.out.below h).at_ HM.out
          obtain rfl := Option.some.inj ha
          exact load_sv c0) ?_
        try simp only [Act.put, List.setIfInBounds_toArray, List.set_cons_zero, List.set_cons_succ]
        (refine steady_add _ _ _ _ rfl (by rfl) (by rfl) ?_ (by rfl) ?_; (focus (simp only [List.length_nil]; omega)); try simp only [Act.put, List.setIfInBounds_toArray, List.set_cons_zero, List.set_cons_succ])
        (refine steady_add _ _ _ _ rfl (by rfl) (by rfl) ?_ (by rfl) ?_; (focus (simp only [List.length_append, List.length_cons, List.length_nil]; omega)); try simp only [Act.put, List.setIfInBounds_toArray, List.set_cons_zero, List.set_cons_succ])
        repeat (first
          | (refine steady_off (by rfl) ?_; try simp only [Act.put, List.setIfInBounds_toArray, List.set_cons_zero, List.set_cons_succ])
          | (refine steady_pure (v := ?_) (by rfl) ?_ ?_; rotate_left; (focus (intro u; go_simp; with_reducible rfl)); try simp only [Act.put, List.setIfInBounds_toArray, List.set_cons_zero, List.set_cons_succ]))
        refine steady_load (v := Sv m.2) 9 (.tmp 26) rfl (by rfl) (fun u h => by
          obtain ⟨a, ha, c0, c1⟩ := (HO.out.below h).at_ HM.out
          obtain rfl := Option.some.inj ha
          exact load_sv c1) ?_
        try simp only [Act.put, List.setIfInBounds_toArray, List.set_cons_zero, List.set_cons_succ]
        (refine steady_add _ _ _ _ rfl (by rfl) (by rfl) ?_ (by rfl) ?_; (focus (simp only [List.length_append, List.length_cons, List.length_nil]; omega)); try simp only [Act.put, List.setIfInBounds_toArray, List.set_cons_zero, List.set_cons_succ])
        repeat (first
          | (refine steady_off (by rfl) ?_; try simp only [Act.put, List.setIfInBounds_toArray, List.set_cons_zero, List.set_cons_succ])
          | (refine steady_pure (v := ?_) (by rfl) ?_ ?_; rotate_left; (focus (intro u; go_simp; with_reducible rfl)); try simp only [Act.put, List.setIfInBounds_toArray, List.set_cons_zero, List.set_cons_succ]))
        refine steady_nil (fun w1 h1 => ?_)
        have HB1 := hid h1
        clear h1
        go_wp2_with fail
        refine ⟨⟨_, 1, rfl, by go_num, hlt, hid (by rw [HT2.out]; try simp), HB1⟩, by simp [intOf] <;> omega⟩
      · have HT2 := hid (show textS (L.take (k + 1)) = T ++ [44] ++ m.1 ++ [61] ++ m.2 by rw [take_snoc_at HM.out, textS_snoc, if_neg (list_no hlt h0), HT.out]; simp [memT])
        have hk0 : 0 < k := by omega
        have hk1 : (0 : Int) < (k : Int) := by omega
        go_upto_region 7 with fail
        refine region_steady (fun u => Below w.heap.size w u) (by kernel_rfl) (by kernel_rfl) (HB.out.trans ((ext_drew wr).mono HB.out.size)) ?_
        repeat (first
          | (refine steady_off (by rfl) ?_; try simp only [Act.put, List.setIfInBounds_toArray, List.set_cons_zero, List.set_cons_succ])
          | (refine steady_pure (v := ?_) (by rfl) ?_ ?_; rotate_left; (focus (intro u; go_simp; with_reducible rfl)); try simp only [Act.put, List.setIfInBounds_toArray, List.set_cons_zero, List.set_cons_succ]))
        refine steady_load (v := Sv m.1) 9 (.tmp 19) rfl (by rfl) (fun u h => by
          obtain ⟨a, ha, c0, c1⟩ := (HO.out.below h).at_ HM.out
          obtain rfl := Option.some.inj ha
          exact load_sv c0) ?_
        try simp only [Act.put, List.setIfInBounds_toArray, List.set_cons_zero, List.set_cons_succ]
        (refine steady_add _ _ _ _ rfl (by rfl) (by rfl) ?_ (by rfl) ?_; (focus (simp only [List.length_append, List.length_cons, List.length_nil]; omega)); try simp only [Act.put, List.setIfInBounds_toArray, List.set_cons_zero, List.set_cons_succ])
        (refine steady_add _ _ _ _ rfl (by rfl) (by rfl) ?_ (by rfl) ?_; (focus (simp only [List.length_append, List.length_cons, List.length_nil]; omega)); try simp only [Act.put, List.setIfInBounds_toArray, List.set_cons_zero, List.set_cons_succ])
        repeat (first
          | (refine steady_off (by rfl) ?_; try simp only [Act.put, List.setIfInBounds_toArray, List.set_cons_zero, List.set_cons_succ])
          | (refine steady_pure (v := ?_) (by rfl) ?_ ?_; rotate_left; (focus (intro u; go_simp; with_reducible rfl)); try simp only [Act.put, List.setIfInBounds_toArray, List.set_cons_zero, List.set_cons_succ]))
        refine steady_load (v := Sv m.2) 9 (.tmp 26) rfl (by rfl) (fun u h => by
          obtain ⟨a, ha, c0, c1⟩ := (HO.out.below h).at_ HM.out
          obtain rfl := Option.some.inj ha
          exact load_sv c1) ?_
        try simp only [Act.put, List.setIfInBounds_toArray, List.set_cons_zero, List.set_cons_succ]
        (refine steady_add _ _ _ _ rfl (by rfl) (by rfl) ?_ (by rfl) ?_; (focus (simp only [List.length_append, List.length_cons, List.length_nil]; omega)); try simp only [Act.put, List.setIfInBounds_toArray, List.set_cons_zero, List.set_cons_succ])
        repeat (first
          | (refine steady_off (by rfl) ?_; try simp only [Act.put, List.setIfInBounds_toArray, List.set_cons_zero, List.set_cons_succ])
          | (refine steady_pure (v := ?_) (by rfl) ?_ ?_; rotate_left; (focus (intro u; go_simp; with_reducible rfl)); try simp only [Act.put, List.setIfInBounds_toArray, List.set_cons_zero, List.set_cons_succ]))
        refine steady_nil (fun w1 h1 => ?_)
        have HB1 := hid h1
        clear h1
        go_wp2_with fail
        refine ⟨⟨_, k + 1, rfl, by go_num, hlt, hid (by rw [HT2.out]; try simp), HB1⟩, by simp [intOf] <;> omega⟩
    · obtain rfl : k = L.length := by omega
      have HT2 := hid (show textS L = T by rw [HT.out, List.take_length])
      go_wp2_with fail
      go_ret
      exact ⟨by rw [HT2.out]; rfl, HB.out⟩
end Go.Proofs.YtgfdmdikiickpaaGreatDoor
