/-
  Walks of package deci.
-/
import Derived.Test.YtgfdmdikiickpaaPDeci
import Derived.Test.YtgfdmdikiickpaaArr
import Derived.Outline
import Derived.Deep.DeepFit
namespace Go.Proofs.Ytgfdmdikiickpaa
open Go.RowKit

theorem decOk_nil : decOk [] = false := rfl
theorem decOk_lead {s : List UInt8} (h0 : byteAt s 0 = 48) (h1 : 1 < s.length) : decOk s = false := by
  rw [Bool.eq_false_iff]; intro h
  obtain ⟨_, _, h3⟩ := (decOk_iff s).1 h
  have := h3 h0; omega
theorem decOk_bad {s : List UInt8} {k : Nat} (hk : k < s.length) (h : byteAt s k < 48 ∨ 57 < byteAt s k) : decOk s = false := by
  rw [Bool.eq_false_iff]; intro hh
  obtain ⟨h1, _, _⟩ := (decOk_iff s).1 hh
  have := h1 k hk; omega
theorem decOk_all {s : List UInt8} (h1 : ∀ j, j < s.length → 48 ≤ byteAt s j ∧ byteAt s j ≤ 57) (h2 : s ≠ []) (h3 : byteAt s 0 = 48 → s.length = 1) : decOk s = true := (decOk_iff s).2 ⟨h1, h2, h3⟩
def FRel (s : List UInt8) (k : Nat) : Prop := ∀ j, j < k → 48 ≤ byteAt s j ∧ byteAt s j ≤ 57
set_option maxRecDepth 100000 in
set_option maxHeartbeats 1000000 in
theorem formed_any (s : List UInt8) (w : World) (hs : s.length ≤ 1125899906842624) :
    Calls Try.prog 31 #[Sv s] w fun e w' => e = .returned (.bool (decOk s)) ∧ w = w' := by
  by_cases he : s = []
  · subst he
    have hd := hid decOk_nil
    have h0 : (([] : List UInt8) == []) = true := rfl
    go_enter Try.func31, Try.ntmps31
    go_wp2
    go_ret
    exact ⟨by rw [hd.out]; rfl, rfl⟩
  have h0 : (s == []) = false := by simpa using he
  have hl : 0 < s.length := List.length_pos_iff.2 he
  have HE := hid he
  clear he
  by_cases hz : byteAt s 0 = 48 ∧ 1 < s.length
  · have hd := hid (decOk_lead hz.1 hz.2)
    have h48 : (byteAt s 0 == 48) = true := by simpa using hz.1
    have h1 := hz.2
    clear hz
    go_enter Try.func31, Try.ntmps31
    go_wp2
    go_ret
    exact ⟨by rw [hd.out]; rfl, rfl⟩
  have HZ := hid (show byteAt s 0 = 48 → s.length = 1 from fun h => by have := fun h2 => hz ⟨h, h2⟩; omega)
  have hq : (byteAt s 0 == 48) = false ∨ ((byteAt s 0 == 48) = true ∧ s.length ≤ 1) := by
    by_cases h : byteAt s 0 = 48
    · exact .inr ⟨by simpa using h, by have := fun h2 => hz ⟨h, h2⟩; omega⟩
    · exact .inl (by simpa using h)
  clear hz
  rcases hq with h48 | ⟨h48, h1⟩
  all_goals
    go_enter Try.func31, Try.ntmps31
    go_wp2
    go_loop [18] (fun i => ∃ k : Nat, k ≤ s.length ∧ i = .int .i64 (k : Int) ∧ FRel s k) (fun i => s.length - (intOf i).toNat)
    case atStart => exact ⟨0, by omega, rfl, fun j hj => by omega⟩
    case round =>
      clear h48
      obtain ⟨k, hk, rfl, hr⟩ := hrel
      have HR := hid hr
      clear hr
      have n1 := byteAt_lo s k
      have n2 := byteAt_hi s k
      by_cases hlt : k < s.length
      · by_cases hb : byteAt s k < 48
        · have hd := hid (decOk_bad hlt (.inl hb))
          go_wp2
          go_ret
          exact ⟨by rw [hd.out]; rfl, rfl⟩
        by_cases hb2 : 57 < byteAt s k
        · have hd := hid (decOk_bad hlt (.inr hb2))
          go_wp2
          go_ret
          exact ⟨by rw [hd.out]; rfl, rfl⟩
        go_wp2
        go_round
        case rel =>
          refine ⟨k + 1, by omega, by go_num, fun j hj => ?_⟩
          by_cases h : j = k
          · subst h; omega
          · exact HR.out j (by omega)
        case measure => simp [intOf] <;> omega
      · have hd := hid (decOk_all (s := s) (fun j hj => HR.out j (by omega)) HE.out HZ.out)
        go_wp2
        go_ret
        exact ⟨by rw [hd.out]; rfl, rfl⟩

theorem decN_mono (s : List UInt8) (h : Digs s) : ∀ k, k ≤ s.length → decN (s.take k) ≤ decN s := by
  have H : ∀ d k, s.length - k = d → k ≤ s.length → decN (s.take k) ≤ decN s := by
    intro d
    induction d with
    | zero => intro k h1 h2; rw [List.take_of_length_le (by omega)]; omega
    | succ d ih =>
      intro k h1 h2
      have := ih (k + 1) (by omega) (by omega)
      rw [decN_take s k (by omega)] at this
      have h0 := (decN_bd (s.take k) (h.take k)).1
      have := h k (by omega)
      omega
  exact fun k hk => H _ k rfl hk
theorem decOk_digs {s : List UInt8} (h : decOk s = true) : Digs s := ((decOk_iff s).1 h).1
def capV (m : Int) (s : List UInt8) : Int := if decN s ≤ m then decN s else 0
def capC (m : Int) (s : List UInt8) : Int := if decN s ≤ m then 0 else 4
theorem cap_in {m : Int} {s : List UInt8} (h : decN s ≤ m) : capV m s = decN s ∧ capC m s = 0 := ⟨if_pos h, if_pos h⟩
theorem cap_out {m : Int} {s : List UInt8} (h : m < decN s) : capV m s = 0 ∧ capC m s = 4 := ⟨if_neg (by omega), if_neg (by omega)⟩
set_option maxRecDepth 100000 in
set_option maxHeartbeats 1000000 in
theorem worthI_any (s : List UInt8) (m : Int) (w : World) (hs : s.length ≤ 1125899906842624) (hd : Digs s) (m0 : 9 ≤ m) (m1 : m ≤ 9223372036854775807) :
    Calls Try.prog 32 #[Sv s, .int .i64 m] w fun e w' => e = .returned (.tuple #[.int .i64 (capV m s), .int .i64 (capC m s)]) ∧ w = w' := by
  have HM := hid (decN_mono s hd)
  have HD := hid hd
  clear hd
  go_enter Try.func32, Try.ntmps32
  go_wp2
  go_loop [6, 11] (fun n i => ∃ k : Nat, k ≤ s.length ∧ i = .int .i64 (k : Int) ∧ n = .int .i64 (decN (s.take k)) ∧ decN (s.take k) ≤ m) (fun _ i => s.length - (intOf i).toNat)
  case atStart => exact ⟨0, by omega, rfl, rfl, by rw [List.take_zero, decN_nil]; omega⟩
  case round =>
    obtain ⟨k, hk, rfl, rfl, hv⟩ := hrel
    by_cases hlt : k < s.length
    · obtain ⟨d0, d1⟩ := HD.out k hlt
      have hst := hid (decN_take s k hlt)
      have hm := HM.out (k + 1) (by omega)
      rw [hst.out] at hm
      have v0 := (decN_bd (s.take k) (HD.out.take k)).1
      generalize decN (s.take k) = V at hst hv hm v0 ⊢
      by_cases hb : (m - (byteAt s k - 48)) / 10 < V
      · have HG := hid (cap_out (m := m) (s := s) (by omega))
        clear hm
        go_wp2
        go_ret2
        exact ⟨by rw [HG.out.1, HG.out.2]; rfl, rfl⟩
      · clear hm
        go_wp2
        go_round
        case rel => exact ⟨k + 1, by omega, by go_num, by rw [hst.out]; go_num, by rw [hst.out]; omega⟩
        case measure => simp [intOf] <;> omega
    · have hkl : k = s.length := by omega
      subst hkl
      rw [List.take_length] at hv ⊢
      have HV := hid (cap_in hv)
      clear hv
      go_wp2
      go_ret2
      exact ⟨by rw [HV.out.1, HV.out.2]; rfl, rfl⟩
set_option maxRecDepth 100000 in
set_option maxHeartbeats 1000000 in
theorem worthU_any (s : List UInt8) (m : Int) (w : World) (hs : s.length ≤ 1125899906842624) (hd : Digs s) (m0 : 9 ≤ m) (m1 : m ≤ 18446744073709551615) :
    Calls Try.prog 33 #[Sv s, .int .u64 m] w fun e w' => e = .returned (.tuple #[.int .u64 (capV m s), .int .i64 (capC m s)]) ∧ w = w' := by
  have HM := hid (decN_mono s hd)
  have HD := hid hd
  clear hd
  go_enter Try.func33, Try.ntmps33
  go_wp2
  go_loop [6, 11] (fun n i => ∃ k : Nat, k ≤ s.length ∧ i = .int .i64 (k : Int) ∧ n = .int .u64 (decN (s.take k)) ∧ decN (s.take k) ≤ m) (fun _ i => s.length - (intOf i).toNat)
  case atStart => exact ⟨0, by omega, rfl, rfl, by rw [List.take_zero, decN_nil]; omega⟩
  case round =>
    obtain ⟨k, hk, rfl, rfl, hv⟩ := hrel
    by_cases hlt : k < s.length
    · obtain ⟨d0, d1⟩ := HD.out k hlt
      have hst := hid (decN_take s k hlt)
      have hm := HM.out (k + 1) (by omega)
      rw [hst.out] at hm
      have v0 := (decN_bd (s.take k) (HD.out.take k)).1
      generalize decN (s.take k) = V at hst hv hm v0 ⊢
      by_cases hb : (m - (byteAt s k - 48)) / 10 < V
      · have HG := hid (cap_out (m := m) (s := s) (by omega))
        clear hm
        go_wp2
        go_ret2
        exact ⟨by rw [HG.out.1, HG.out.2]; rfl, rfl⟩
      · clear hm
        go_wp2
        go_round
        case rel => exact ⟨k + 1, by omega, by go_num, by rw [hst.out]; go_num, by rw [hst.out]; omega⟩
        case measure => simp [intOf] <;> omega
    · have hkl : k = s.length := by omega
      subst hkl
      rw [List.take_length] at hv ⊢
      have HV := hid (cap_in hv)
      clear hv
      go_wp2
      go_ret2
      exact ⟨by rw [HV.out.1, HV.out.2]; rfl, rfl⟩
def uOut (s : List UInt8) : Value := .tuple #[.int .u64 (decVal 18446744073709551615 s), .int .i64 (decCode 18446744073709551615 s)]
theorem uOut_no {s : List UInt8} (h : decOk s = false) : uOut s = .tuple #[.int .u64 0, .int .i64 3] := by
  have hc : decCode 18446744073709551615 s = 3 := by simp [decCode, h]
  unfold uOut decVal; rw [hc]; rfl
theorem uOut_yes {s : List UInt8} (h : decOk s = true) : uOut s = .tuple #[.int .u64 (capV 18446744073709551615 s), .int .i64 (capC 18446744073709551615 s)] := by
  unfold uOut decVal decCode capV capC
  rw [if_pos h]
  by_cases hm : decN s ≤ 18446744073709551615
  · simp only [if_pos hm, if_true]
  · simp only [if_neg hm]; rfl
def iOut (s : List UInt8) : Value := .tuple #[.int .i64 (intVal s), .int .i64 (intCode s)]
theorem iOut_code {s : List UInt8} {c : Int} (h : intCode s = c) (hc : c ≠ 0) : iOut s = .tuple #[.int .i64 0, .int .i64 c] := by
  unfold iOut intVal; rw [h, if_neg hc]
theorem iOut_plain_no {s : List UInt8} (hn : negS s = false) (h : decOk s = false) : iOut s = .tuple #[.int .i64 0, .int .i64 3] :=
  iOut_code (by simp [intCode, hn, decCode, h]) (by decide)
theorem iOut_plain {s : List UInt8} (hn : negS s = false) (h : decOk s = true) : iOut s = .tuple #[.int .i64 (capV 9223372036854775807 s), .int .i64 (capC 9223372036854775807 s)] := by
  unfold iOut intVal intCode decCode capV capC
  simp only [hn, h, Bool.false_eq_true, if_false, if_true]
  by_cases hm : decN s ≤ 9223372036854775807
  · simp only [if_pos hm, if_true]
  · simp only [if_neg hm]; rfl
theorem iOut_neg_no {s : List UInt8} (hn : negS s = true) (h : decOk s.tail = false) : iOut s = .tuple #[.int .i64 0, .int .i64 3] :=
  iOut_code (by unfold intCode; rw [if_pos hn]; split; · rfl
                unfold decCode; rw [h]; rfl) (by decide)
theorem iOut_neg_zero {s : List UInt8} (hn : negS s = true) (h : s.tail = [48]) : iOut s = .tuple #[.int .i64 0, .int .i64 3] :=
  iOut_code (by unfold intCode; rw [if_pos hn, if_pos h]) (by decide)
theorem iOut_neg {s : List UInt8} (hn : negS s = true) (h : decOk s.tail = true) (h0 : s.tail ≠ [48]) : iOut s = .tuple #[.int .i64 (- capV 9223372036854775808 s.tail), .int .i64 (capC 9223372036854775808 s.tail)] := by
  unfold iOut intVal intCode decCode capV capC
  rw [hn, if_pos rfl, if_neg h0, if_pos h, if_pos rfl]
  by_cases hm : decN s.tail ≤ 9223372036854775808
  · simp only [if_pos hm, if_true]
  · simp only [if_neg hm]; rfl
theorem capV_bd {s : List UInt8} (m : Int) (h : decOk s = true) (m0 : 0 ≤ m) : 0 ≤ capV m s ∧ capV m s ≤ m := by
  have := decN_nonneg h
  unfold capV; split <;> omega
theorem ret2_int {k : IntKind} {a b : Int} {x : Value} (h : a = b) : Ending.returned (.tuple #[.int k a, x]) = Ending.returned (.tuple #[.int k b, x]) := by rw [h]
theorem neg_wrap (V : Int) (h0 : 0 ≤ V) (h1 : V ≤ 9223372036854775808) : wrap64 (IntKind.u64.wrap (-V)) = -V := by
  rw [IntKind.wrap_u64]; unfold wrap64; omega
set_option maxRecDepth 100000 in
set_option maxHeartbeats 2000000 in
theorem readI_any (s : List UInt8) (w : World) (hs : s.length ≤ 1125899906842624) :
    Calls Try.prog 21 #[Sv s] w fun e w' => e = .returned (iOut s) ∧ w = w' := by
  cases hn : negS s with
  | false =>
    have hq : s = [] ∨ (s ≠ [] ∧ byteAt s 0 ≠ 45) := by
      by_cases h : s = []
      · exact .inl h
      · exact .inr ⟨h, fun h2 => by simp [negS, h, h2] at hn⟩
    cases hd : decOk s with
    | false =>
      have HN := hid (iOut_plain_no hn hd)
      clear hn
      rcases hq with rfl | ⟨h0, h1⟩
      · have h0 : (([] : List UInt8) == []) = true := rfl
        go_enter Try.func21, Try.ntmps21
        go_wp2_with fail
        refine (formed_any _ _ hs).mono ?_; rintro e w' ⟨rfl, rfl⟩
        go_wp2_with fail
        go_ret2
        exact ⟨by rw [HN.out]; rfl, rfl⟩
      · have hl : 0 < s.length := List.length_pos_iff.2 h0
        have h2 : (s == []) = false := by simpa using h0
        have h3 : (byteAt s 0 != 45) = true := by simpa using h1
        clear h0 h1
        go_enter Try.func21, Try.ntmps21
        go_wp2_with fail
        refine (formed_any _ _ hs).mono ?_; rintro e w' ⟨rfl, rfl⟩
        go_wp2_with fail
        go_ret2
        exact ⟨by rw [HN.out]; rfl, rfl⟩
    | true =>
      have HN := hid (iOut_plain hn hd)
      have hg := hid (decOk_digs hd)
      clear hn
      rcases hq with rfl | ⟨h0, h1⟩
      · exact absurd hd (by decide)
      · have hl : 0 < s.length := List.length_pos_iff.2 h0
        have h2 : (s == []) = false := by simpa using h0
        have h3 : (byteAt s 0 != 45) = true := by simpa using h1
        clear h0 h1
        go_enter Try.func21, Try.ntmps21
        go_wp2_with fail
        refine (formed_any _ _ hs).mono ?_; rintro e w' ⟨rfl, rfl⟩
        go_wp2_with fail
        refine (worthI_any s _ _ hs hg.out (by omega) (by omega)).mono ?_; rintro e w' ⟨rfl, rfl⟩
        go_wp2_with fail
        go_ret2
        exact ⟨by rw [HN.out]; rfl, rfl⟩
  | true =>
    obtain ⟨h0, h1⟩ : s ≠ [] ∧ byteAt s 0 = 45 := by simpa [negS] using hn
    have hl : 0 < s.length := List.length_pos_iff.2 h0
    have h2 : (s == []) = false := by simpa using h0
    have h3 : (byteAt s 0 != 45) = false := by simpa using h1
    have hdl : s.tail.length ≤ 1125899906842624 := by simp; omega
    clear h0 h1
    cases hd : decOk s.tail with
    | false =>
      have HN := hid (iOut_neg_no hn hd)
      have HD := hid hd
      clear hd hn
      go_enter Try.func21, Try.ntmps21
      go_wp2_with fail
      refine (formed_any _ _ hdl).mono ?_; rintro e w' ⟨rfl, rfl⟩
      rw [HD.out]
      go_wp2_with fail
      go_ret2
      exact ⟨by rw [HN.out]; rfl, rfl⟩
    | true =>
      by_cases h48 : s.tail = [48]
      · have HN := hid (iOut_neg_zero hn h48)
        have HD := hid hd
        have HT := hid h48
        clear hd hn h48
        go_enter Try.func21, Try.ntmps21
        go_wp2_with fail
        refine (formed_any _ _ hdl).mono ?_; rintro e w' ⟨rfl, rfl⟩
        rw [HD.out]
        have h5 : (s.tail == [48]) = true := by rw [HT.out]; rfl
        go_wp2_with fail
        go_ret2
        exact ⟨by rw [HN.out]; rfl, rfl⟩
      · have HN := hid (iOut_neg hn hd h48)
        have hg := hid (decOk_digs hd)
        have HD := hid hd
        have HB := hid (capV_bd 9223372036854775808 hd (by omega))
        have h5 : (s.tail == [48]) = false := by simpa using h48
        clear hn hd h48
        go_enter Try.func21, Try.ntmps21
        go_wp2_with fail
        refine (formed_any _ _ hdl).mono ?_; rintro e w' ⟨rfl, rfl⟩
        rw [HD.out]
        go_wp2_with fail
        refine (worthU_any s.tail _ _ hdl hg.out (by omega) (by omega)).mono ?_; rintro e w' ⟨rfl, rfl⟩
        go_wp2_with fail
        go_ret2
        exact ⟨by rw [HN.out]; exact ret2_int (neg_wrap _ HB.out.1 HB.out.2), rfl⟩
theorem decB_ex (f : Nat) (n : Int) (tl : List UInt8) (h1 : n < 10 ^ (f + 1)) (h2 : ¬ n < 10) : ∃ g, f = g + 1 ∧ n / 10 < 10 ^ (g + 1) ∧ decB f n ++ tl = decB g (n / 10) ++ (bt (48 + n % 10) :: tl) := by
  cases f with
  | zero => simp at h1; omega
  | succ g => exact ⟨g, rfl, by rw [Int.pow_succ] at h1; omega, decB_step g n tl h2⟩
theorem wrap64u (n : Int) (h0 : -9223372036854775808 ≤ n) (h1 : n < 0) : IntKind.u64.wrap (-(IntKind.u64.wrap n)) = -n := by
  rw [IntKind.wrap_u64, IntKind.wrap_u64]; omega
end Go.Proofs.Ytgfdmdikiickpaa
