/-
  Walks of the reference of package jnum: runs of digits.
-/
import Derived.Test.YtgfdmdikiickpaaPJnumB
import Derived.Test.YtgfdmdikiickpaaCurRef
import Derived.Deep.DeepCutAuto
namespace Go.Proofs.Ytgfdmdikiickpaa
open Go.RowKit

theorem runD_drop (s : List UInt8) (k : Nat) (h : k < s.length) : runD (s.drop k) = if isD (byteAt s k) = true then runD (s.drop (k + 1)) + 1 else 0 := by
  rw [List.drop_eq_getElem_cons h]
  simp only [runD]
  rw [byteAt_getElem s k h]
theorem retI {k : IntKind} {a b : Int} (h : a = b) : Ending.returned (.int k a) = .returned (.int k b) := by rw [h]
set_option maxRecDepth 100000 in
set_option maxHeartbeats 1000000 in
theorem jrun_any (s : List UInt8) (k : Nat) (w : World) (hs : s.length ≤ 1000000) (hk : k ≤ s.length) :
    Calls Try.prog 44 #[Sv s, .int .i64 (k : Int)] w fun e w' => e = .returned (.int .i64 ((k + runD (s.drop k) : Nat) : Int)) ∧ w = w' := by
  go_enter Try.func44, Try.ntmps44
  go_wp2
  go_loop [1] (fun i => ∃ j : Nat, j ≤ s.length ∧ i = .int .i64 (j : Int) ∧ Hid (k + runD (s.drop k) = j + runD (s.drop j))) (fun i => s.length - (intOf i).toNat)
  case atStart => exact ⟨k, hk, rfl, hid rfl⟩
  case round =>
    obtain ⟨j, hj, rfl, HR⟩ := hrel
    by_cases hlt : j < s.length
    · have HD := hid (runD_drop s j hlt)
      by_cases h1 : 48 ≤ byteAt s j
      · by_cases h2 : byteAt s j ≤ 57
        · have HD' := hid (show runD (s.drop j) = runD (s.drop (j + 1)) + 1 by rw [HD.out, if_pos (show isD _ = true from decide_eq_true ⟨h1, h2⟩)])
          go_wp2
          go_round
          case rel => exact ⟨j + 1, by omega, by go_num, hid (by rw [HR.out, HD'.out]; omega)⟩
          case measure => simp [intOf]; omega
        · have HD' := hid (show runD (s.drop j) = 0 by rw [HD.out, if_neg (by simp [isD]; omega)])
          go_wp2
          go_ret
          exact ⟨retI (a := (j : Int)) (by have := HR.out; have := HD'.out; omega), rfl⟩
      · have HD' := hid (show runD (s.drop j) = 0 by rw [HD.out, if_neg (by simp [isD]; omega)])
        go_wp2
        go_ret
        exact ⟨retI (a := (j : Int)) (by have := HR.out; have := HD'.out; omega), rfl⟩
    · obtain rfl : j = s.length := by omega
      go_wp2
      go_ret
      exact ⟨retI (a := (s.length : Int)) (by have := HR.out; rw [List.drop_length] at this; have h0 : runD [] = 0 := rfl; omega), rfl⟩
def oneB (s : List UInt8) (k : Nat) (m : List UInt8) : Bool := decide (eatN m (s.drop k) = 1)
theorem eatN_two {s : List UInt8} {k : Nat} (h : k < s.length) (a b : UInt8) : eatN [a, b] (s.drop k) = if (byteAt s k == bi a || byteAt s k == bi b) = true then 1 else 0 := by
  rw [List.drop_eq_getElem_cons h, byteAt_getElem s k h]
  simp only [eatN, List.mem_cons, List.not_mem_nil, or_false, Bool.or_eq_true, beq_iff_eq]
  by_cases h1 : s[k] = a
  · rw [if_pos (.inl h1), if_pos (.inl (by rw [h1]))]
  · by_cases h2 : s[k] = b
    · rw [if_pos (.inr h2), if_pos (.inr (by rw [h2]))]
    · rw [if_neg (by simp [h1, h2]), if_neg]
      rintro (h | h)
      · exact h1 (bi_inj h)
      · exact h2 (bi_inj h)
theorem oneB_at {s : List UInt8} {k : Nat} (h : k < s.length) (a b : UInt8) : oneB s k [a, b] = (byteAt s k == bi a || byteAt s k == bi b) := by
  have e := eatN_two h a b
  unfold oneB
  cases hq : (byteAt s k == bi a || byteAt s k == bi b) with
  | true => rw [hq] at e; exact decide_eq_true (by rw [e]; rfl)
  | false => rw [hq] at e; exact decide_eq_false (by rw [e]; simp)
theorem oneB_end {s : List UInt8} {k : Nat} (h : ¬ k < s.length) (m : List UInt8) : oneB s k m = false := by
  unfold oneB
  rw [List.drop_eq_nil_of_le (by omega)]
  rfl
set_option maxRecDepth 100000 in
set_option maxHeartbeats 1000000 in
theorem one_any (s : List UInt8) (k : Nat) (a b : UInt8) (w : World) (hs : s.length ≤ 1000000) (hk : k ≤ s.length) :
    Calls Try.prog 34 #[Sv s, .int .i64 (k : Int), .int .u8 (bi a), .int .u8 (bi b)] w fun e w' => e = .returned (.bool (oneB s k [a, b])) ∧ w = w' := by
  by_cases hlt : k < s.length
  · have HO := hid (oneB_at hlt a b)
    obtain ⟨x, hx⟩ : ∃ x, bi a = x := ⟨_, rfl⟩
    obtain ⟨y, hy⟩ : ∃ y, bi b = y := ⟨_, rfl⟩
    rw [hx, hy] at HO ⊢
    clear hx hy
    cases h1 : (byteAt s k == x) with
    | true =>
      have HB := hid (show oneB s k [a, b] = true by rw [HO.out, h1]; rfl)
      clear HO
      go_enter Try.func34, Try.ntmps34
      go_wp2
      go_ret
      exact ⟨by rw [HB.out]; rfl, rfl⟩
    | false =>
      cases h2 : (byteAt s k == y) with
      | true =>
        have HB := hid (show oneB s k [a, b] = true by rw [HO.out, h1, h2]; rfl)
        clear HO
        go_enter Try.func34, Try.ntmps34
        go_wp2
        go_ret
        exact ⟨by rw [HB.out]; rfl, rfl⟩
      | false =>
        have HB := hid (show oneB s k [a, b] = false by rw [HO.out, h1, h2]; rfl)
        clear HO
        go_enter Try.func34, Try.ntmps34
        go_wp2
        go_ret
        exact ⟨by rw [HB.out]; rfl, rfl⟩
  · have HB := hid (oneB_end hlt [a, b])
    go_enter Try.func34, Try.ntmps34
    go_wp2
    go_ret
    exact ⟨by rw [HB.out]; rfl, rfl⟩
set_option maxRecDepth 100000 in
set_option maxHeartbeats 1000000 in
theorem need_any (s : List UInt8) (k : Nat) (w : World) (hs : s.length ≤ 1000000) (hk : k ≤ s.length) :
    Calls Try.prog 35 #[Sv s, .int .i64 (k : Int)] w fun e w' => e = .returned (.tuple #[.int .i64 ((k + (digR (s.drop k)).2 : Nat) : Int), .int .i64 (digR (s.drop k)).1]) ∧ w = w' := by
  by_cases hr : runD (s.drop k) = 0
  · by_cases he : k = s.length
    · have HD := hid (show digR (s.drop k) = (1, 0) by rw [digR, if_pos hr, if_pos (by rw [he, List.drop_length])])
      have HR := hid hr
      have q1 : ((k : Int) == (s.length : Int)) = true := by rw [he]; simp
      clear hr he
      go_enter Try.func35, Try.ntmps35
      go_wp2_with fail
      refine (jrun_any s k _ hs hk).mono ?_; rintro e w' ⟨rfl, rfl⟩
      rw [HR.out]
      go_wp2_with fail
      go_ret2
      exact ⟨by rw [HD.out]; rfl, rfl⟩
    · have HD := hid (show digR (s.drop k) = (3, 0) by
        rw [digR, if_pos hr, if_neg]
        intro h
        have := congrArg List.length h
        rw [List.length_drop] at this
        simp at this; omega)
      have HR := hid hr
      have q1 : ((k : Int) == (s.length : Int)) = false := by rw [beq_eq_false_iff_ne]; omega
      clear hr he
      go_enter Try.func35, Try.ntmps35
      go_wp2_with fail
      refine (jrun_any s k _ hs hk).mono ?_; rintro e w' ⟨rfl, rfl⟩
      rw [HR.out]
      go_wp2_with fail
      go_ret2
      exact ⟨by rw [HD.out]; rfl, rfl⟩
  · have HD := hid (show digR (s.drop k) = (0, runD (s.drop k)) by rw [digR, if_neg hr])
    obtain ⟨n, hn⟩ : ∃ n, runD (s.drop k) = n := ⟨_, rfl⟩
    have HN := hid hn
    rw [hn] at hr HD
    have hpos : 0 < n := by omega
    clear hn hr
    go_enter Try.func35, Try.ntmps35
    go_wp2_with fail
    refine (jrun_any s k _ hs hk).mono ?_; rintro e w' ⟨rfl, rfl⟩
    rw [HN.out]
    go_wp2_with fail
    go_ret2
    exact ⟨by rw [HD.out]; rfl, rfl⟩
end Go.Proofs.Ytgfdmdikiickpaa
