/-
  The laws of chapter 6: walks.
-/
import Derived.Test.YtdjbgojdkaipfaaDeciRef
import Derived.Test.YtdjbgojdkaipfaaConv
import Derived.Deep.RegionWith
import Derived.Deep.DeepCutAuto
namespace Go.Proofs.Ytdjbgojdkaipfaa
open Go.RowKit

theorem dconsts : iOut [45, 52, 48] = .tuple #[.int .i64 (-40), .int .i64 0] ∧ iOut [45, 48] = .tuple #[.int .i64 0, .int .i64 3] ∧ iOut maxM = .tuple #[.int .i64 0, .int .i64 4] ∧ decT (-40) = [45, 52, 48] ∧ decB 19 0 = [48] := by
  have h1 : intVal [45, 52, 48] = -40 ∧ intCode [45, 52, 48] = 0 ∧ intVal [45, 48] = 0 ∧ intCode [45, 48] = 3 ∧ intVal maxM = 0 ∧ intCode maxM = 4 := by decide +kernel
  obtain ⟨a, b, c, d, e, f⟩ := h1
  unfold iOut
  rw [a, b, c, d, e, f]
  exact ⟨rfl, rfl, rfl, by decide +kernel, by decide +kernel⟩
set_option maxRecDepth 100000 in
set_option maxHeartbeats 1000000 in
theorem dworks_any (w : World) :
    Calls Try.prog 22 #[] w fun e w' => e = .returned (.bool true) ∧ Below w.heap.size w w' := by
  have HC := hid dconsts
  go_enter Try.func22, Try.ntmps22
  go_wp2_with fail
  refine (readI_any [45, 52, 48] _ (by decide)).mono ?_; rintro e w1 ⟨rfl, rfl⟩
  rw [HC.out.1]
  go_wp2_with fail
  refine (readI_any [45, 48] _ (by decide)).mono ?_; rintro e w1 ⟨rfl, rfl⟩
  rw [HC.out.2.1]
  go_wp2_with fail
  refine (readI_any maxM _ (by decide)).mono ?_; rintro e w1 ⟨rfl, rfl⟩
  rw [HC.out.2.2.1]
  go_wp2_with fail
  refine (put_any _ [112] (-40) _ (bs_new w [112] #[.int .u8 112] (1, 2) 1 rfl rfl) (by decide) (by decide) (by decide)).mono ?_; rintro e w4 ⟨v, rfl, hown, hb4⟩
  rw [HC.out.2.2.2.1] at hown
  have hts := run_to_string hown.bs
  clear hown
  go_wp2_with fail
  refine (putU_any _ [] 0 _ (Bs.nil _ _) (by decide) (by decide) (by decide)).mono ?_; rintro e w5 ⟨v5, rfl, hown5, hb5⟩
  rw [HC.out.2.2.2.2] at hown5
  have hts5 := run_to_string hown5.bs
  clear hown5
  go_wp2_with fail
  go_ret
  exact ⟨rfl, ext_trans (ext_trans (ext_alloc w _) hb4) hb5⟩
set_option maxHeartbeats 1000000 in
theorem deciReads_any (s : List UInt8) (w : World) (hs : s.length ≤ 1125899906842624) :
    Calls Try.prog 4 #[Sv s] w fun e w' => e = .returned (.bool true) ∧ Below w.heap.size w w' := by
  by_cases h200 : 200 < s.length
  · go_enter Try.func4, Try.ntmps4
    go_wp2_with fail
    refine (dworks_any _).mono ?_; rintro e w1 ⟨rfl, hb1⟩
    go_wp2_with fail
    go_ret
    exact ⟨rfl, hb1⟩
  · have e1 : (intVal s == intVal s) = true := by simp
    have e2 : (intCode s == intCode s) = true := by simp
    have e3 : (decVal 18446744073709551615 s == decVal 18446744073709551615 s) = true := by simp
    have e4 : (decCode 18446744073709551615 s == decCode 18446744073709551615 s) = true := by simp
    have Ho := hid (show iOut s = .tuple #[.int .i64 (intVal s), .int .i64 (intCode s)] from rfl)
    have Hu := hid (show uOut s = .tuple #[.int .u64 (decVal 18446744073709551615 s), .int .i64 (decCode 18446744073709551615 s)] from rfl)
    go_enter Try.func4, Try.ntmps4
    go_wp2_with fail
    refine (readI_any s _ hs).mono ?_; rintro e w1 ⟨rfl, rfl⟩
    rw [Ho.out]
    go_wp2_with fail
    refine (rreadI_any s _ hs).mono ?_; rintro e w1 ⟨rfl, rfl⟩
    rw [Ho.out]
    go_wp2_with fail
    refine (readU_any s _ hs).mono ?_; rintro e w1 ⟨rfl, rfl⟩
    rw [Hu.out]
    go_wp2_with fail
    refine (rreadU_any s _ hs).mono ?_; rintro e w1 ⟨rfl, rfl⟩
    rw [Hu.out]
    go_wp2_with fail
    refine (dworks_any _).mono ?_; rintro e w1 ⟨rfl, hb1⟩
    go_wp2_with fail
    go_ret
    exact ⟨rfl, hb1⟩
set_option maxHeartbeats 1000000 in
theorem deciOne_any (s t : List UInt8) (w : World) (hs : s.length ≤ 1125899906842624) (ht : t.length ≤ 1125899906842624) :
    Calls Try.prog 3 #[Sv s, Sv t] w fun e w' => e = .returned (.bool true) ∧ Below w.heap.size w w' := by
  have Ho := hid (show iOut s = .tuple #[.int .i64 (intVal s), .int .i64 (intCode s)] from rfl)
  have Hu := hid (show iOut t = .tuple #[.int .i64 (intVal t), .int .i64 (intCode t)] from rfl)
  have hbd := intVal_bd s
  have h0 := hbd.1
  have h1 := hbd.2
  clear hbd
  by_cases hc : intCode s = 0
  · have c1 : (intCode s == 0) = true := by simpa using hc
    have c2 : (intCode s != 0) = false := by simpa using hc
    have h8 := hid (intOne s hc)
    have h9 : (s != s) = false := by simp
    have h9b : (!s == s) = false := by simp
    by_cases hd : intCode t = 0
    · have d2 : (intCode t != 0) = false := by simpa using hd
      have hq : ((intVal s == intVal t) == (s == t)) = true := by
        have := intOne t hd
        have h3 := h8.out
        by_cases h : s = t
        · subst h; simp
        · have hne : intVal s ≠ intVal t := fun e => h (by rw [← h3, ← this, e])
          rw [beq_eq_false_iff_ne.2 hne, beq_eq_false_iff_ne.2 h]; rfl
      clear hc hd
      go_enter Try.func3, Try.ntmps3
      go_wp2_with fail
      refine (readI_any s _ hs).mono ?_; rintro e w1 ⟨rfl, rfl⟩
      rw [Ho.out]
      go_wp2_with fail
      refine (readI_any t _ ht).mono ?_; rintro e w1 ⟨rfl, rfl⟩
      rw [Hu.out]
      go_wp2_with fail
      refine (put_any _ [] (intVal s) _ (Bs.nil _ _) h0 h1 (by decide)).mono ?_; rintro e w5 ⟨v5, rfl, hown5, hb5⟩
      rw [List.nil_append, h8.out] at hown5
      have hts5 := run_to_string hown5.bs
      clear hown5
      go_wp2_with fail
      refine (dworks_any _).mono ?_; rintro e w1 ⟨rfl, hb1⟩
      go_wp2_with fail
      go_ret
      exact ⟨rfl, ext_trans hb5 hb1⟩
    · have d2 : (intCode t != 0) = true := by simpa using hd
      clear hc hd
      go_enter Try.func3, Try.ntmps3
      go_wp2_with fail
      refine (readI_any s _ hs).mono ?_; rintro e w1 ⟨rfl, rfl⟩
      rw [Ho.out]
      go_wp2_with fail
      refine (readI_any t _ ht).mono ?_; rintro e w1 ⟨rfl, rfl⟩
      rw [Hu.out]
      go_wp2_with fail
      refine (put_any _ [] (intVal s) _ (Bs.nil _ _) h0 h1 (by decide)).mono ?_; rintro e w5 ⟨v5, rfl, hown5, hb5⟩
      rw [List.nil_append, h8.out] at hown5
      have hts5 := run_to_string hown5.bs
      clear hown5
      go_wp2_with fail
      refine (dworks_any _).mono ?_; rintro e w1 ⟨rfl, hb1⟩
      go_wp2_with fail
      go_ret
      exact ⟨rfl, ext_trans hb5 hb1⟩
  · have c1 : (intCode s == 0) = false := by simpa using hc
    have c2 : (intCode s != 0) = true := by simpa using hc
    clear hc
    go_enter Try.func3, Try.ntmps3
    go_wp2_with fail
    refine (readI_any s _ hs).mono ?_; rintro e w1 ⟨rfl, rfl⟩
    rw [Ho.out]
    go_wp2_with fail
    refine (readI_any t _ ht).mono ?_; rintro e w1 ⟨rfl, rfl⟩
    rw [Hu.out]
    go_wp2_with fail
    refine (dworks_any _).mono ?_; rintro e w1 ⟨rfl, hb1⟩
    go_wp2_with fail
    go_ret
    exact ⟨rfl, hb1⟩
theorem put_at (p A : List UInt8) (n : Int) (w0 u : World) (hu : Below (tb w0 p).heap.size (tb w0 p) u) (hA : decT n = A) (h0 : -9223372036854775808 ≤ n) (h1 : n ≤ 9223372036854775807) (hs : p.length ≤ 140737488354000) :
    Calls Try.prog 21 #[tv w0 p, .int .i64 n] u fun e w' => ∃ v, e = .returned v ∧ StrOf w' v (p ++ A) ∧ Below u.heap.size u w' :=
  (put_any _ p n u ((tb_bs w0 p).ext hu) h0 h1 hs).mono fun _ _ ⟨v, he, ho, hb⟩ => ⟨v, he, hA ▸ ho.bs.str, hb⟩
theorem putU_at (p A : List UInt8) (n : Int) (w0 u : World) (hu : Below (tb w0 p).heap.size (tb w0 p) u) (hA : decB 19 n = A) (h0 : 0 ≤ n) (h1 : n ≤ 18446744073709551615) (hs : p.length ≤ 140737488354000) :
    Calls Try.prog 26 #[tv w0 p, .int .u64 n] u fun e w' => ∃ v, e = .returned v ∧ StrOf w' v (p ++ A) ∧ Below u.heap.size u w' :=
  (putU_any _ p n u ((tb_bs w0 p).ext hu) h0 h1 hs).mono fun _ _ ⟨v, he, ho, hb⟩ => ⟨v, he, hA ▸ ho.bs.str, hb⟩
set_option maxRecDepth 100000 in
set_option maxHeartbeats 4000000 in
theorem deciBack_any (p : List UInt8) (n u : Int) (w : World) (hp : p.length ≤ 140737488351232) (n0 : -9223372036854775808 ≤ n) (n1 : n ≤ 9223372036854775807) (u0 : 0 ≤ u) (u1 : u ≤ 18446744073709551615) :
    Calls Try.prog 5 #[Sv p, .int .i64 n, .int .u64 u] w fun e w' => e = .returned (.bool true) ∧ Below w.heap.size w w' := by
  obtain ⟨A, hA⟩ : ∃ A, decT n = A := ⟨_, rfl⟩
  obtain ⟨B, hB⟩ : ∃ B, decB 19 u = B := ⟨_, rfl⟩
  have HA := hid hA
  have HB := hid hB
  have lA : A.length ≤ 21 := by
    rw [← hA]; unfold decT
    have hp : (10 : Int) ^ (19 + 1) = 100000000000000000000 := by decide +kernel
    split
    · have := (decB_ok 19 (-n) (by omega) (by rw [hp]; omega)).2.2.1
      rw [List.length_cons]; omega
    · have := (decB_ok 19 n (by omega) (by rw [hp]; omega)).2.2.1
      omega
  have lB : B.length ≤ 20 := by
    rw [← hB]
    have hp : (10 : Int) ^ (19 + 1) = 100000000000000000000 := by decide +kernel
    exact (decB_ok 19 u u0 (by rw [hp]; omega)).2.2.1
  have HI := hid (hA ▸ intBack n n0 n1)
  have HU := hid (hB ▸ natBack u u0 u1)
  clear hA hB
  go_enter Try.func5, Try.ntmps5
  go_upto_region 1 with fail
  go_cut [7, 8] (fun s7 s8 wx => s7 = Sv (p ++ A) ∧ s8 = Sv (p ++ B) ∧ Below w.heap.size w wx)
  case first =>
   go_region_with (first
    | (go_at_call 21; refine (put_at p A n _ _ (by first | exact Below.refl _ _ | exact tb_below _ _ | assumption | exact ext_trans (tb_below _ _) (by assumption) | exact ext_tb (by assumption)) HA.out n0 n1 (by omega)).mono ?_; rintro e wa ⟨va, rfl, hsa, hba⟩; have sa := hsa.here; have sat := hsa.tb p; have HSA := hid hsa; clear hsa; (try (have sb3 := HSB.out wa (by first | assumption | exact ext_tb (by assumption)))))
    | (go_at_call 26; refine (putU_at p B u _ _ (by first | exact Below.refl _ _ | exact tb_below _ _ | assumption | exact ext_trans (tb_below _ _) (by assumption) | exact ext_tb (by assumption)) HB.out u0 u1 (by omega)).mono ?_; rintro e wb ⟨vb, rfl, hsb, hbb⟩; have sb := hsb.here; have sbt := hsb.tb p; have HSB := hid hsb; clear hsb; (try (have sa3 := HSA.out wb (by first | assumption | exact ext_tb (by assumption))))))
   all_goals (go_wp2_with fail; go_meet; refine ⟨rfl, rfl, ?_⟩; repeat (first | (with_reducible exact ext_drew _) | (with_reducible refine ext_trans ?_ (tb_below _ _)) | (with_reducible refine ext_trans ?_ hba) | (with_reducible refine ext_trans ?_ hbb)))
  case rest =>
    obtain ⟨rfl, rfl, hbw⟩ := hcut
    have HBW := hid hbw
    clear hbw
    go_wp2_with fail
    refine (rtext_any n _ n0 n1).mono ?_; rintro e w1 ⟨rfl, rfl⟩
    rw [HA.out]
    have e1 : (p ++ A == p ++ A) = true := by simp
    have e1b : (!p ++ A == p ++ A) = false := by simp
    have e2 : (p ++ B == p ++ B) = true := by simp
    have d1 : (p ++ A).drop p.length = A := by simp
    have d2 : (p ++ B).drop p.length = B := by simp
    go_wp2_with fail
    refine (rtextU_any u _ u0 u1).mono ?_; rintro e w1 ⟨rfl, rfl⟩
    rw [HB.out]
    go_wp2_with fail
    refine (readI_any A _ (by omega)).mono ?_; rintro e w1 ⟨rfl, rfl⟩
    rw [iOut, HI.out.1, HI.out.2]
    go_wp2_with fail
    refine (readU_any B _ (by omega)).mono ?_; rintro e w1 ⟨rfl, rfl⟩
    rw [uOut, HU.out.1, HU.out.2]
    have e3 : (n == n) = true := by simp
    have e4 : (u == u) = true := by simp
    go_wp2_with fail
    refine (dworks_any _).mono ?_; rintro e w1 ⟨rfl, hb1⟩
    go_wp2_with fail
    go_ret
    exact ⟨rfl, ext_trans HBW.out hb1⟩
end Go.Proofs.Ytdjbgojdkaipfaa
