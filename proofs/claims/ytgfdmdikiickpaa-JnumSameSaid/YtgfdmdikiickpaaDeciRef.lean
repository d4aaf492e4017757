/-
  Walks of the reference of package deci.
-/
import Derived.Test.YtgfdmdikiickpaaDeci
namespace Go.Proofs.Ytgfdmdikiickpaa
open Go.RowKit

theorem decd_cut (n : Int) (h0 : 0 ≤ n) (h1 : n < 10) : List.take ((n + 1).toNat - n.toNat) (List.drop n.toNat [48, 49, 50, 51, 52, 53, 54, 55, 56, 57]) = [bt (48 + n)] := by
  obtain ⟨m, rfl⟩ := Int.eq_ofNat_of_zero_le h0
  have : ∀ k : Fin 10, List.take (((k.val : Int) + 1).toNat - ((k.val : Int)).toNat) (List.drop ((k.val : Int)).toNat [48, 49, 50, 51, 52, 53, 54, 55, 56, 57]) = [bt (48 + (k.val : Int))] := by decide
  exact this ⟨m, by omega⟩
set_option maxRecDepth 100000 in
set_option maxHeartbeats 1000000 in
theorem rtextU_fuel (f : Nat) : ∀ (u : Int) (w : World), f ≤ 19 → 0 ≤ u → u ≤ 18446744073709551615 → u < 10 ^ (f + 1) →
    Calls Try.prog 26 #[.int .u64 u] w fun e w' => e = .returned (Sv (decB f u)) ∧ w = w' := by
  induction f with
  | zero =>
    intro u w _ h0 h1 h2
    have hu : u < 10 := by simpa using h2
    have hd := hid (decB_small 0 u hu)
    have d1 := decd_cut (u % 10) (by omega) (by omega)
    clear h2
    go_enter Try.func26, Try.ntmps26
    go_wp2
    go_ret
    exact ⟨by rw [hd.out]; rfl, rfl⟩
  | succ f ih =>
    intro u w hf h0 h1 h2
    have d1 := decd_cut (u % 10) (by omega) (by omega)
    by_cases hu : u < 10
    · have hd := hid (decB_small (f + 1) u hu)
      clear h2 ih
      go_enter Try.func26, Try.ntmps26
      go_wp2
      go_ret
      exact ⟨by rw [hd.out]; rfl, rfl⟩
    · have hd := hid (show decB (f + 1) u = decB f (u / 10) ++ [bt (48 + u % 10)] by simp only [decB]; rw [if_neg hu])
      have hlt : u / 10 < 10 ^ (f + 1) := by rw [Int.pow_succ] at h2; omega
      have hlen := (decB_ok f (u / 10) (by omega) hlt).2.2.1
      have IH := hid (fun w => ih (u / 10) w (by omega) (by omega) (by omega) hlt)
      clear h2 ih hlt
      generalize decB f (u / 10) = R at hd hlen IH
      go_enter Try.func26, Try.ntmps26
      go_wp2_with fail
      refine (IH.out _).mono ?_; rintro e w' ⟨rfl, rfl⟩
      go_wp2_with fail
      go_ret
      exact ⟨by rw [hd.out]; rfl, rfl⟩
theorem rtextU_any (u : Int) (w : World) (h0 : 0 ≤ u) (h1 : u ≤ 18446744073709551615) :
    Calls Try.prog 26 #[.int .u64 u] w fun e w' => e = .returned (Sv (decB 19 u)) ∧ w = w' :=
  rtextU_fuel 19 u w (Nat.le_refl _) h0 h1 (by have : (10 : Int) ^ (19 + 1) = 100000000000000000000 := by decide +kernel
                                               omega)
theorem tdiv10 (n : Int) (h : n < 0) : n.tdiv 10 = -((-n) / 10) := by
  have e : (-(-n)).tdiv 10 = -((-n).tdiv 10) := Int.neg_tdiv _ _
  rw [Int.neg_neg, Int.tdiv_eq_ediv_of_nonneg (a := -n) (by omega)] at e
  exact e
theorem tmod10 (n : Int) (h : n < 0) : n.tmod 10 = -((-n) % 10) := by
  have e : (-(-n)).tmod 10 = -((-n).tmod 10) := Int.neg_tmod _ _
  rw [Int.neg_neg, Int.tmod_eq_emod_of_nonneg (a := -n) (by omega)] at e
  exact e
set_option maxRecDepth 100000 in
set_option maxHeartbeats 1000000 in
theorem rtextN_fuel (f : Nat) : ∀ (n : Int) (w : World), f ≤ 19 → -9223372036854775808 ≤ n → n < 0 → -n < 10 ^ (f + 1) →
    Calls Try.prog 9 #[.int .i64 n] w fun e w' => e = .returned (Sv (45 :: decB f (-n))) ∧ w = w' := by
  induction f with
  | zero =>
    intro n w _ h0 h1 h2
    have hu : -n < 10 := by simpa using h2
    have hd := hid (show decB 0 (-n) = decB 19 (-n) by rw [decB_small _ _ hu, decB_small _ _ hu])
    have hl := (decB_ok 0 (-n) (by omega) h2).2.2.1
    rw [hd.out] at hl
    have HC := hid (rtextU_any (-n) w (by omega) (by omega))
    generalize decB 19 (-n) = R at hd hl HC
    clear h2
    go_enter Try.func9, Try.ntmps9
    go_wp2_with fail
    refine HC.out.mono ?_; rintro e w' ⟨rfl, rfl⟩
    go_wp2_with fail
    go_ret
    exact ⟨by rw [hd.out]; rfl, rfl⟩
  | succ f ih =>
    intro n w hf h0 h1 h2
    by_cases hu : -n < 10
    · have hd := hid (show decB (f + 1) (-n) = decB 19 (-n) by rw [decB_small _ _ hu, decB_small _ _ hu])
      have hl := (decB_ok (f + 1) (-n) (by omega) h2).2.2.1
      rw [hd.out] at hl
      have HC := hid (rtextU_any (-n) w (by omega) (by omega))
      generalize decB 19 (-n) = R at hd hl HC
      clear h2 ih
      go_enter Try.func9, Try.ntmps9
      go_wp2_with fail
      refine HC.out.mono ?_; rintro e w' ⟨rfl, rfl⟩
      go_wp2_with fail
      go_ret
      exact ⟨by rw [hd.out]; rfl, rfl⟩
    · have hd := hid (show decB (f + 1) (-n) = decB f (- -(-n / 10)) ++ decB 19 (- -(-n % 10)) by
        rw [decB_small 19 (- -(-n % 10)) (by omega)]
        simp only [decB]; rw [if_neg hu, Int.neg_neg, Int.neg_neg]; congr 4; omega)
      have hlt : -n / 10 < 10 ^ (f + 1) := by rw [Int.pow_succ] at h2; omega
      have e1 := hid (tdiv10 n h1)
      have e2 := hid (tmod10 n h1)
      have hl1 := (decB_ok f (- -(-n / 10)) (by omega) (by omega)).2.2.1
      have hl2 := (decB_ok 19 (- -(-n % 10)) (by omega) (by have : (10 : Int) ^ (19 + 1) = 100000000000000000000 := by decide +kernel
                                                            omega)).2.2.1
      have IH := hid (fun w => ih (-(-n / 10)) w (by omega) (by omega) (by omega) (by rw [Int.neg_neg]; exact hlt))
      have HC := hid (fun w => rtextU_any (- -(-n % 10)) w (by omega) (by omega))
      clear h2 ih hlt
      have q0 : - -(-n % 10) ≤ 9 := by omega
      have q1 : 0 ≤ - -(-n % 10) := by omega
      generalize decB f (- -(-n / 10)) = R at hd hl1 IH
      generalize decB 19 (- -(-n % 10)) = T at hd hl2 HC
      go_enter Try.func9, Try.ntmps9
      go_wp2_with fail
      rw [e1.out]
      refine (IH.out _).mono ?_; rintro e w' ⟨rfl, rfl⟩
      go_wp2_with fail
      rw [e2.out]
      go_wp2_with fail
      rw [show IntKind.u64.wrap (wrap64 (- -(-n % 10))) = - -(-n % 10) by rw [IntKind.wrap_u64]; unfold wrap64; omega]
      refine (HC.out _).mono ?_; rintro e w' ⟨rfl, rfl⟩
      go_wp2_with fail
      go_ret
      exact ⟨by rw [hd.out]; rfl, rfl⟩
set_option maxRecDepth 100000 in
theorem rtext_any (n : Int) (w : World) (h0 : -9223372036854775808 ≤ n) (h1 : n ≤ 9223372036854775807) :
    Calls Try.prog 9 #[.int .i64 n] w fun e w' => e = .returned (Sv (decT n)) ∧ w = w' := by
  by_cases hn : n < 0
  · unfold decT
    rw [if_pos hn]
    exact rtextN_fuel 19 n w (Nat.le_refl _) h0 hn (by have : (10 : Int) ^ (19 + 1) = 100000000000000000000 := by decide +kernel
                                                       omega)
  · have hd := hid (show decT n = decB 19 n by unfold decT; rw [if_neg hn])
    go_enter Try.func9, Try.ntmps9
    go_wp2_with fail
    refine (rtextU_any n _ (by omega) (by omega)).mono ?_; rintro e w' ⟨rfl, rfl⟩
    go_wp2_with fail
    go_ret
    exact ⟨by rw [hd.out]; rfl, rfl⟩
set_option maxRecDepth 100000 in
set_option maxHeartbeats 1000000 in
theorem rformed_any (s : List UInt8) (w : World) (hs : s.length ≤ 1125899906842624) :
    Calls Try.prog 36 #[Sv s] w fun e w' => e = .returned (.bool (decOk s)) ∧ w = w' := by
  go_enter Try.func36, Try.ntmps36
  go_wp2
  go_loop [3] (fun i => ∃ k : Nat, k ≤ s.length ∧ i = .int .i64 (k : Int) ∧ FRel s k) (fun i => s.length - (intOf i).toNat)
  case atStart => exact ⟨0, by omega, rfl, fun j hj => by omega⟩
  case round =>
    obtain ⟨k, hk, rfl, hr⟩ := hrel
    have HR := hid hr
    clear hr
    have n1 := byteAt_lo s k
    have n2 := byteAt_hi s k
    by_cases hlt : k < s.length
    · by_cases hb : byteAt s k < 48
      · have hd := hid (decOk_bad hlt (.inl hb))
        go_wp2
        go_ret
        exact ⟨by rw [hd.out]; rfl, rfl⟩
      by_cases hb2 : 57 < byteAt s k
      · have hd := hid (decOk_bad hlt (.inr hb2))
        go_wp2
        go_ret
        exact ⟨by rw [hd.out]; rfl, rfl⟩
      go_wp2
      go_round
      case rel =>
        refine ⟨k + 1, by omega, by go_num, fun j hj => ?_⟩
        by_cases h : j = k
        · subst h; omega
        · exact HR.out j (by omega)
      case measure => simp [intOf] <;> omega
    · have hkl : k = s.length := by omega
      subst hkl
      clear n1 n2
      by_cases he : s = []
      · subst he
        have hd := hid decOk_nil
        have h0 : (([] : List UInt8) == [48]) = false := rfl
        have h1 : (([] : List UInt8) != []) = false := rfl
        go_wp2
        go_ret
        exact ⟨by rw [hd.out]; rfl, rfl⟩
      · have hl : 0 < s.length := List.length_pos_iff.2 he
        have HE := hid he
        have h1 : (!s == []) = true := by simpa using he
        have h1b : (!s.isEmpty) = true := by simpa using he
        clear he
        by_cases h48 : s = [48]
        · have hd := hid (show decOk s = true by rw [h48]; rfl)
          have h0 : (s == [48]) = true := by simpa using h48
          clear h48
          go_wp2
          go_ret
          exact ⟨by rw [hd.out]; rfl, rfl⟩
        · have h0 : (s == [48]) = false := by simpa using h48
          have hd := hid (show decOk s = (byteAt s 0 != 48) by
            by_cases hz : byteAt s 0 = 48
            · rw [decOk_lead hz (by
                match s, HE.out with
                | b :: [], _ =>
                  rw [byteAt_one] at hz
                  exact absurd (by rw [← bt_bi b, hz]; rfl) h48
                | b :: c :: r, _ => simp)]
              simp [hz]
            · rw [decOk_all (s := s) (fun j hj => HR.out j hj) HE.out (fun h => absurd h hz)]
              simp [hz])
          clear h48
          go_wp2
          go_ret
          exact ⟨by rw [hd.out]; rfl, rfl⟩
def gtB (s t : List UInt8) : Bool := decide (decN t < decN s)
theorem less_total : ∀ a b : List UInt8, (!(Op.bytesLess a b || a == b)) = Op.bytesLess b a
  | [], [] => by simp [Op.bytesLess]
  | [], b :: r => by simp [Op.bytesLess]
  | a :: r, [] => by simp [Op.bytesLess]
  | a :: r, b :: q => by
    have ih := less_total r q
    rw [less_step', less_step', ← ih]
    have hb : ((a :: r) == (b :: q)) = (decide (bi a = bi b) && (r == q)) := by
      rw [Bool.eq_iff_iff]; simp
      exact fun _ => ⟨fun h => by rw [h], bi_inj⟩
    rw [hb]
    by_cases h1 : bi a < bi b
    · have h2 : ¬ bi b < bi a := by omega
      have h3 : ¬ bi b = bi a := by omega
      simp [h1, h2, h3]
    · by_cases h2 : bi a = bi b
      · simp [h2]
      · have h3 : bi b < bi a := by omega
        have h4 : ¬ bi a < bi b := by omega
        simp [h2, h3, h4]
set_option maxRecDepth 100000 in
set_option maxHeartbeats 1000000 in
theorem rabove_any (s t : List UInt8) (w : World) (hs : s.length ≤ 1125899906842624) (ht : t.length ≤ 1125899906842624) (ds : decOk s = true) (dt : decOk t = true) (h2 : 2 ≤ t.length) :
    Calls Try.prog 37 #[Sv s, Sv t] w fun e w' => e = .returned (.bool (gtB s t)) ∧ w = w' := by
  have HA := hid (aboveB_eq s t ds dt h2)
  have HT := hid (less_total s t)
  clear ds dt h2
  by_cases h1 : t.length < s.length
  · have HG := hid (show gtB s t = true by rw [gtB, ← HA.out, aboveB, decide_eq_true h1]; rfl)
    go_enter Try.func37, Try.ntmps37
    go_wp2
    go_ret
    exact ⟨by rw [HG.out]; rfl, rfl⟩
  · by_cases h3 : s.length = t.length
    · have HG := hid (show gtB s t = (!Op.bytesLess s t && !s == t) by rw [gtB, ← HA.out, aboveB, decide_eq_false h1, decide_eq_true h3, ← HT.out, Bool.not_or]; rfl)
      have hb : ((s.length : Int) == (t.length : Int)) = true := by simp [h3]
      clear h3
      go_enter Try.func37, Try.ntmps37
      go_wp2
      go_ret
      exact ⟨by rw [HG.out]; rfl, rfl⟩
    · have HG := hid (show gtB s t = false by rw [gtB, ← HA.out, aboveB, decide_eq_false h1, decide_eq_false h3]; rfl)
      have hb : ((s.length : Int) == (t.length : Int)) = false := by simp; omega
      clear h3
      go_enter Try.func37, Try.ntmps37
      go_wp2
      go_ret
      exact ⟨by rw [HG.out]; rfl, rfl⟩
set_option maxRecDepth 100000 in
set_option maxHeartbeats 1000000 in
theorem rworth_any (s : List UInt8) (w : World) (hs : s.length ≤ 1125899906842624) (hd : Digs s) (hm : decN s ≤ 18446744073709551615) :
    Calls Try.prog 38 #[Sv s] w fun e w' => e = .returned (.int .u64 (decN s)) ∧ w = w' := by
  have HM := hid (decN_mono s hd)
  have HD := hid hd
  have HX := hid hm
  clear hd hm
  go_enter Try.func38, Try.ntmps38
  go_wp2
  go_loop [3, 4] (fun n i => ∃ k : Nat, k ≤ s.length ∧ i = .int .i64 (k : Int) ∧ n = .int .u64 (decN (s.take k))) (fun _ i => s.length - (intOf i).toNat)
  case atStart => exact ⟨0, by omega, rfl, rfl⟩
  case round =>
    obtain ⟨k, hk, rfl, rfl⟩ := hrel
    by_cases hlt : k < s.length
    · obtain ⟨d0, d1⟩ := HD.out k hlt
      have hst := hid (decN_take s k hlt)
      have hm := HM.out (k + 1) (by omega)
      have hx := HX.out
      rw [hst.out] at hm
      have v0 := (decN_bd (s.take k) (HD.out.take k)).1
      generalize decN (s.take k) = V at hst hm v0 ⊢
      have v1 : V ≤ 1844674407370955161 := by omega
      have HV := hid (show 10 * V + (byteAt s k - 48) ≤ 18446744073709551615 by omega)
      clear hm hx
      go_wp2
      go_round
      case rel => exact ⟨k + 1, by omega, by go_num, by rw [hst.out]; exact congrArg (Value.int .u64) (by rw [IntKind.wrap_u64]; have := HV.out; omega)⟩
      case measure => simp [intOf] <;> omega
    · have hkl : k = s.length := by omega
      subst hkl
      rw [List.take_length]
      go_wp2
      go_ret
      exact ⟨rfl, rfl⟩
def maxS : List UInt8 := [49, 56, 52, 52, 54, 55, 52, 52, 48, 55, 51, 55, 48, 57, 53, 53, 49, 54, 49, 53]
def maxP : List UInt8 := [57, 50, 50, 51, 51, 55, 50, 48, 51, 54, 56, 53, 52, 55, 55, 53, 56, 48, 55]
def maxM : List UInt8 := [57, 50, 50, 51, 51, 55, 50, 48, 51, 54, 56, 53, 52, 55, 55, 53, 56, 48, 56]
theorem max_vals : decN maxS = 18446744073709551615 ∧ decN maxP = 9223372036854775807 ∧ decN maxM = 9223372036854775808 ∧ decOk maxS = true ∧ decOk maxP = true ∧ decOk maxM = true := by decide +kernel
theorem gtB_cap {s t : List UInt8} {m : Int} (ht : decN t = m) : gtB s t = true ∧ capV m s = 0 ∧ capC m s = 4 ∨ gtB s t = false ∧ decN s ≤ m ∧ capV m s = decN s ∧ capC m s = 0 := by
  unfold gtB
  rw [ht]
  by_cases h : m < decN s
  · exact .inl ⟨decide_eq_true h, cap_out h⟩
  · exact .inr ⟨decide_eq_false h, by omega, cap_in (by omega)⟩
set_option maxRecDepth 100000 in
set_option maxHeartbeats 2000000 in
theorem rreadI_any (s : List UInt8) (w : World) (hs : s.length ≤ 1125899906842624) :
    Calls Try.prog 25 #[Sv s] w fun e w' => e = .returned (iOut s) ∧ w = w' := by
  have HM := hid max_vals
  cases hn : negS s with
  | false =>
    have hq : (s = [] ∨ s ≠ [] ∧ byteAt s 0 ≠ 45) := by
      by_cases h : s = []
      · exact .inl h
      · exact .inr ⟨h, fun h2 => by simp [negS, h, h2] at hn⟩
    cases hd : decOk s with
    | false =>
      have HN := hid (iOut_plain_no hn hd)
      clear hn
      rcases hq with rfl | ⟨h0, h1⟩
      · have h0 : (!([] : List UInt8) == []) = false := rfl
        have h1 : (!([] : List UInt8).isEmpty) = false := rfl
        go_enter Try.func25, Try.ntmps25
        go_wp2_with fail
        refine (rformed_any _ _ hs).mono ?_; rintro e w' ⟨rfl, rfl⟩
        go_wp2_with fail
        go_ret2
        exact ⟨by rw [HN.out]; rfl, rfl⟩
      · have hl : 0 < s.length := List.length_pos_iff.2 h0
        have h2 : (!s == []) = true := by simpa using h0
        have h2b : (!s.isEmpty) = true := by simpa using h0
        have h3 : (byteAt s 0 == 45) = false := by simpa using h1
        clear h0 h1
        go_enter Try.func25, Try.ntmps25
        go_wp2_with fail
        refine (rformed_any _ _ hs).mono ?_; rintro e w' ⟨rfl, rfl⟩
        go_wp2_with fail
        go_ret2
        exact ⟨by rw [HN.out]; rfl, rfl⟩
    | true =>
      have HN := hid (iOut_plain hn hd)
      have hg := hid (decOk_digs hd)
      have HD := hid hd
      clear hn
      rcases hq with rfl | ⟨h0, h1⟩
      · exact absurd hd (by decide)
      · have hl : 0 < s.length := List.length_pos_iff.2 h0
        have h2 : (!s == []) = true := by simpa using h0
        have h2b : (!s.isEmpty) = true := by simpa using h0
        have h3 : (byteAt s 0 == 45) = false := by simpa using h1
        clear h0 h1
        rcases gtB_cap (s := s) HM.out.2.1 with ⟨g, a, b⟩ | ⟨g, l, a, b⟩
        · have HAB := hid (And.intro a b)
          clear a b
          go_enter Try.func25, Try.ntmps25
          go_wp2_with fail
          refine (rformed_any _ _ hs).mono ?_; rintro e w' ⟨rfl, rfl⟩
          go_wp2_with fail
          refine (rabove_any s maxP _ hs (by decide) HD.out HM.out.2.2.2.2.1 (by decide)).mono ?_; rintro e w' ⟨rfl, rfl⟩
          go_wp2_with fail
          go_ret2
          exact ⟨by rw [HN.out, HAB.out.1, HAB.out.2]; rfl, rfl⟩
        · have HAB := hid (And.intro l (And.intro a b))
          have hnn := decN_nonneg hd
          clear a b
          go_enter Try.func25, Try.ntmps25
          go_wp2_with fail
          refine (rformed_any _ _ hs).mono ?_; rintro e w' ⟨rfl, rfl⟩
          go_wp2_with fail
          refine (rabove_any s maxP _ hs (by decide) HD.out HM.out.2.2.2.2.1 (by decide)).mono ?_; rintro e w' ⟨rfl, rfl⟩
          go_wp2_with fail
          refine (rworth_any s _ hs hg.out (by omega)).mono ?_; rintro e w' ⟨rfl, rfl⟩
          go_wp2_with fail
          go_ret2
          exact ⟨by rw [HN.out, HAB.out.2.1, HAB.out.2.2]; rfl, rfl⟩
  | true =>
    obtain ⟨h0, h1⟩ : s ≠ [] ∧ byteAt s 0 = 45 := by simpa [negS] using hn
    have hl : 0 < s.length := List.length_pos_iff.2 h0
    have h2 : (!s == []) = true := by simpa using h0
    have h2b : (!s.isEmpty) = true := by simpa using h0
    have h3 : (byteAt s 0 == 45) = true := by simpa using h1
    have hdl : s.tail.length ≤ 1125899906842624 := by simp; omega
    have ht : (s == [45, 48]) = (s.tail == [48]) := by
      match s, h0 with
      | b :: r, _ =>
        rw [byteAt_zero'] at h1
        have : b = 45 := by rw [← bt_bi b, h1]; rfl
        rw [this]; simp
    clear h0 h1
    cases hd : decOk s.tail with
    | false =>
      have HN := hid (iOut_neg_no hn hd)
      have HD := hid hd
      clear hd hn ht
      go_enter Try.func25, Try.ntmps25
      go_wp2_with fail
      refine (rformed_any _ _ hdl).mono ?_; rintro e w' ⟨rfl, rfl⟩
      rw [HD.out]
      go_wp2_with fail
      go_ret2
      exact ⟨by rw [HN.out]; rfl, rfl⟩
    | true =>
      by_cases h48 : s.tail = [48]
      · have HN := hid (iOut_neg_zero hn h48)
        have HD := hid hd
        have h5 : (s == [45, 48]) = true := by rw [ht, h48]; rfl
        clear hd hn h48 ht
        go_enter Try.func25, Try.ntmps25
        go_wp2_with fail
        refine (rformed_any _ _ hdl).mono ?_; rintro e w' ⟨rfl, rfl⟩
        rw [HD.out]
        go_wp2_with fail
        go_ret2
        exact ⟨by rw [HN.out]; rfl, rfl⟩
      · have HN := hid (iOut_neg hn hd h48)
        have hg := hid (decOk_digs hd)
        have HD := hid hd
        have HB := hid (capV_bd 9223372036854775808 hd (by omega))
        have h5 : (s == [45, 48]) = false := by rw [ht]; simpa using h48
        have hcap := gtB_cap (s := s.tail) HM.out.2.2.1
        clear hn hd h48 ht
        rcases hcap with ⟨g, a, b⟩ | ⟨g, l, a, b⟩
        · have HAB := hid (And.intro a b)
          clear a b
          go_enter Try.func25, Try.ntmps25
          go_wp2_with fail
          refine (rformed_any _ _ hdl).mono ?_; rintro e w' ⟨rfl, rfl⟩
          rw [HD.out]
          go_wp2_with fail
          refine (rabove_any s.tail maxM _ hdl (by decide) HD.out HM.out.2.2.2.2.2 (by decide)).mono ?_; rintro e w' ⟨rfl, rfl⟩
          go_wp2_with fail
          go_ret2
          exact ⟨by rw [HN.out, HAB.out.1, HAB.out.2]; rfl, rfl⟩
        · have HAB := hid (And.intro l (And.intro a b))
          clear a b l
          go_enter Try.func25, Try.ntmps25
          go_wp2_with fail
          refine (rformed_any _ _ hdl).mono ?_; rintro e w' ⟨rfl, rfl⟩
          rw [HD.out]
          go_wp2_with fail
          refine (rabove_any s.tail maxM _ hdl (by decide) HD.out HM.out.2.2.2.2.2 (by decide)).mono ?_; rintro e w' ⟨rfl, rfl⟩
          go_wp2_with fail
          refine (rworth_any s.tail _ hdl hg.out (by have := HAB.out.1; omega)).mono ?_; rintro e w' ⟨rfl, rfl⟩
          go_wp2_with fail
          go_ret2
          exact ⟨by rw [HN.out, HAB.out.2.2]; exact ret2_int (by have h1 := HAB.out.2.1; have h2 := HB.out; rw [h1] at h2 ⊢; exact neg_wrap _ h2.1 h2.2), rfl⟩
end Go.Proofs.Ytgfdmdikiickpaa
