/-
  Walks of the reference of package chead: the head of a field.
-/
import Derived.Test.YtdjbgojdkaipfaaHeadRefC
namespace Go.Proofs.Ytdjbgojdkaipfaa
open Go.RowKit

set_option maxRecDepth 100000 in
theorem rnumb_any (k : Int) (w : World) :
    Calls Try.prog 119 #[.int .i64 k] w fun e w' => e = .returned (.bool (inR k)) ∧ w = w' := by
  by_cases a : -32768 ≤ k
  · by_cases b : k ≤ 32767
    · have hk := hid (show inR k = true from decide_eq_true ⟨a, b⟩)
      go_enter Try.func119, Try.ntmps119
      go_wp2
      go_ret
      exact ⟨by rw [hk.out]; rfl, rfl⟩
    · have hk := hid (show inR k = false from decide_eq_false (fun h => b h.2))
      go_enter Try.func119, Try.ntmps119
      go_wp2
      go_ret
      exact ⟨by rw [hk.out]; rfl, rfl⟩
  · have hk := hid (show inR k = false from decide_eq_false (fun h => a h.1))
    go_enter Try.func119, Try.ntmps119
    go_wp2
    go_ret
    exact ⟨by rw [hk.out]; rfl, rfl⟩
set_option maxRecDepth 100000 in
set_option maxHeartbeats 4000000 in
theorem rfield_any (c : Cu) (last : Int) (w : World) (hf : c.fit) (l0 : -40000 ≤ last) (l1 : last ≤ 40000) :
    Calls Try.prog 56 #[agg c, .int .i64 last] w fun e w' => RLPost (fieldR last c.ahead) c w e w' := by
  have R0 := R2.new w c
  by_cases hc0 : c.code = 0
  case neg =>
    have hne : (c.code != 0) = true := by simpa using hc0
    have HT := hid (Cu.take_bad hc0 1)
    have HB := hid (show c.byte = 0 by simp [Cu.byte, Cu.why, hc0])
    have HC := hid hc0
    clear hc0
    unfold agg
    go_enter Try.func56, Try.ntmps56
    go_wp2_with fail
    refine (rbyte_any c _ hf).mono ?_; rintro e w1 ⟨rfl, hw1⟩
    rw [HT.out, HB.out]
    have R1 := R0.ext hw1
    obtain ⟨⟨p0, p1, p2, p3, f0, f1, f2, f3⟩, ⟨r0, r1, r2, r3, g0, g1, g2, g3⟩, z0, z1⟩ := R1.cells
    have HR1 := hid R1
    clear R0 R1 hw1
    unfold agg
    simp only []
    go_wp2_with fail
    exact bodyPost_ret (v := .tuple #[.agg #[Sv c.s, .int .i64 c.pos, .int .i64 c.en, .int .i64 c.code], .int .i64 0, .int .u8 0]) (by simp only [results, Try.results56]; go_simp) rfl
      (RLPost.mk_bad HC.out hf (by ((repeat (first | (with_reducible refine Below.drew ?_) | (with_reducible refine Below.setCell ?_ (by simp <;> omega) _) | (with_reducible refine Below.alloc ?_ (by simp <;> omega) _))); exact (HR1).out.bel)))
  by_cases hlt : c.pos < c.en
  case neg =>
    obtain ⟨ht, hb⟩ := Cu.take_cut hc0 hlt
    have HR := hid (show fieldR last c.ahead = (1, 0, 0, 0) by rw [ahead_nil hlt]; rfl)
    have HT := hid ht
    have HB := hid hb
    have HC := hid hc0
    clear ht hb hc0
    unfold agg
    go_enter Try.func56, Try.ntmps56
    go_wp2_with fail
    refine (rbyte_any c _ hf).mono ?_; rintro e w1 ⟨rfl, hw1⟩
    rw [HT.out, HB.out]
    have R1 := R0.ext hw1
    obtain ⟨⟨p0, p1, p2, p3, f0, f1, f2, f3⟩, ⟨r0, r1, r2, r3, g0, g1, g2, g3⟩, z0, z1⟩ := R1.cells
    have HR1 := hid R1
    clear R0 R1 hw1
    unfold agg
    simp only []
    go_wp2_with fail
    exact bodyPost_ret (v := .tuple #[.agg #[Sv c.s, .int .i64 c.pos, .int .i64 c.en, .int .i64 1], .int .i64 0, .int .u8 0]) (by simp only [results, Try.results56]; go_simp) rfl
      (RLPost.mk_ok (c' := { c with code := 1 }) HC.out HR.out rfl rfl ⟨hf.le1, hf.le2, hf.le3⟩ rfl (fun h => absurd h (by decide)) (by ((repeat (first | (with_reducible refine Below.drew ?_) | (with_reducible refine Below.setCell ?_ (by simp <;> omega) _) | (with_reducible refine Below.alloc ?_ (by simp <;> omega) _))); exact (HR1).out.bel)))
  obtain ⟨ht, hb⟩ := Cu.take_ok hc0 hlt
  have hf1 : ({ c with pos := c.pos + 1 } : Cu).fit := ⟨hlt, hf.le2, hf.le3⟩
  have hah := ahead_cons hlt hf
  have n1 := byteAt_lo c.s c.pos
  have n2 := byteAt_hi c.s c.pos
  have hR : ∀ r, fieldR last c.ahead = r ↔ fieldR last (UInt8.ofNat (byteAt c.s c.pos).toNat :: ({ c with pos := c.pos + 1 } : Cu).ahead) = r := fun r => by rw [← hah]
  simp only [fieldR, bi_ofByteAt] at hR
  generalize hN : byteAt c.s c.pos = N at n1 n2 hb hR
  have HRR := hid hR
  have HT := hid ht
  have HB := hid hb
  have HC := hid hc0
  have hcode : (c.code != 0) = false := by rw [hc0]; rfl
  have hcode2 : (c.code == 0) = true := by rw [hc0]; rfl
  have ht16 : N.tmod 16 = N % 16 := Int.tmod_eq_emod_of_nonneg n1
  have hd16 : N.tdiv 16 = N / 16 := Int.tdiv_eq_ediv_of_nonneg n1
  clear ht hb hc0 hah hN hR
  by_cases hz : N = 0
  · have HR := hid ((HRR.out (0, 1, 0, 0)).2 (by rw [if_pos hz]))
    have h0 : (N == 0) = true := by simpa using hz
    clear hz HRR
    unfold agg
    go_enter Try.func56, Try.ntmps56
    go_wp2_with fail
    refine (rbyte_any c _ hf).mono ?_; rintro e w1 ⟨rfl, hw1⟩
    rw [HT.out, HB.out]
    have R1 := R0.ext hw1
    obtain ⟨⟨p0, p1, p2, p3, f0, f1, f2, f3⟩, ⟨r0, r1, r2, r3, g0, g1, g2, g3⟩, z0, z1⟩ := R1.cells
    have HR1 := hid R1
    clear R0 R1 hw1
    unfold agg
    simp only []
    go_wp2_with fail
    exact bodyPost_ret (v := .tuple #[.agg #[Sv c.s, .int .i64 (c.pos + 1 : Nat), .int .i64 c.en, .int .i64 c.code], .int .i64 0, .int .u8 0]) (by simp only [results, Try.results56]; go_simp) rfl
      (RLPost.mk_ok (c' := { c with pos := c.pos + 1 }) HC.out HR.out rfl rfl hf1 HC.out (fun _ => rfl) (by ((repeat (first | (with_reducible refine Below.drew ?_) | (with_reducible refine Below.setCell ?_ (by simp <;> omega) _) | (with_reducible refine Below.alloc ?_ (by simp <;> omega) _))); exact (HR1).out.bel)))
  have h0 : (N == 0) = false := by simpa using hz
  have k0 : 0 ≤ N % 16 := by omega
  have k1 : N % 16 ≤ 255 := by omega
  by_cases hk : isK (N % 16) = true
  case neg =>
    have hkf : isK (N % 16) = false := by simpa using hk
    have HR := hid ((HRR.out (7, 0, 0, 0)).2 (by rw [if_neg hz, if_pos hkf]))
    have HK := hid hkf
    clear hk hkf HRR hz
    unfold agg
    go_enter Try.func56, Try.ntmps56
    go_wp2_with fail
    refine (rbyte_any c _ hf).mono ?_; rintro e w1 ⟨rfl, hw1⟩
    rw [HT.out, HB.out]
    have R1 := R0.ext hw1
    obtain ⟨⟨p0, p1, p2, p3, f0, f1, f2, f3⟩, ⟨r0, r1, r2, r3, g0, g1, g2, g3⟩, z0, z1⟩ := R1.cells
    have HR1 := hid (R1.put { c with pos := c.pos + 1 })
    clear R0 R1 hw1
    unfold agg
    simp only []
    go_wp2_with fail
    refine (ris_any (N % 16) _ (by omega) (by omega)).mono ?_; rintro e w2 ⟨rfl, rfl⟩
    rw [HK.out]
    go_wp2_with fail
    refine (rfail_any ({ c with pos := c.pos + 1 } : Cu) 7 _).mono ?_; rintro e w2 ⟨rfl, hw2⟩
    rw [fail_ok _ HC.out]
    have R2 := HR1.out.ext hw2
    obtain ⟨⟨p0, p1, p2, p3, f0, f1, f2, f3⟩, ⟨r0, r1, r2, r3, g0, g1, g2, g3⟩, z0, z1⟩ := R2.cells
    have HR2 := hid R2
    clear R2 hw2 HR1
    unfold agg
    simp only []
    go_wp2_with fail
    exact bodyPost_ret (v := .tuple #[.agg #[Sv c.s, .int .i64 (c.pos + 1 : Nat), .int .i64 c.en, .int .i64 7], .int .i64 0, .int .u8 0]) (by simp only [results, Try.results56]; go_simp) rfl
      (RLPost.mk_ok (c' := { c with pos := c.pos + 1, code := 7 }) HC.out HR.out rfl rfl ⟨hf1.le1, hf1.le2, hf1.le3⟩ rfl (fun h => absurd h (by decide)) (by ((repeat (first | (with_reducible refine Below.drew ?_) | (with_reducible refine Below.setCell ?_ (by simp <;> omega) _) | (with_reducible refine Below.alloc ?_ (by simp <;> omega) _))); exact (HR2).out.bel)))
  have HK := hid hk
  have hnk : ¬ isK (N % 16) = false := by rw [hk]; simp
  by_cases hst : 0 < N / 16
  · have h16 : ¬ N < 16 := by omega
    by_cases hin : inR (last + N / 16) = true
    case neg =>
      have HI := hid (show inR (last + N / 16) = false by simpa using hin)
      have HR := hid ((HRR.out (4, 0, 0, 0)).2 (by rw [if_neg hz, if_neg hnk, if_pos hst, if_neg hin]))
      clear hz hk hnk hin HRR
      unfold agg
      go_enter Try.func56, Try.ntmps56
      go_wp2_with fail
      refine (rbyte_any c _ hf).mono ?_; rintro e w1 ⟨rfl, hw1⟩
      rw [HT.out, HB.out]
      have R1 := R0.ext hw1
      obtain ⟨⟨p0, p1, p2, p3, f0, f1, f2, f3⟩, ⟨r0, r1, r2, r3, g0, g1, g2, g3⟩, z0, z1⟩ := R1.cells
      have HR1 := hid (R1.put { c with pos := c.pos + 1 })
      clear R0 R1 hw1
      unfold agg
      simp only []
      go_wp2_with fail
      refine (ris_any (N % 16) _ (by omega) (by omega)).mono ?_; rintro e w2 ⟨rfl, rfl⟩
      rw [HK.out]
      go_wp2_with fail
      refine (rnumb_any (last + N / 16) _).mono ?_; rintro e w2 ⟨rfl, rfl⟩
      rw [HI.out]
      go_wp2_with fail
      refine (rfail_any ({ c with pos := c.pos + 1 } : Cu) 4 _).mono ?_; rintro e w2 ⟨rfl, hw2⟩
      rw [fail_ok _ HC.out]
      have R2 := HR1.out.ext hw2
      obtain ⟨⟨p0, p1, p2, p3, f0, f1, f2, f3⟩, ⟨r0, r1, r2, r3, g0, g1, g2, g3⟩, z0, z1⟩ := R2.cells
      have HR2 := hid R2
      clear R2 hw2 HR1
      unfold agg
      simp only []
      go_wp2_with fail
      exact bodyPost_ret (v := .tuple #[.agg #[Sv c.s, .int .i64 (c.pos + 1 : Nat), .int .i64 c.en, .int .i64 4], .int .i64 0, .int .u8 0]) (by simp only [results, Try.results56]; go_simp) rfl
        (RLPost.mk_ok (c' := { c with pos := c.pos + 1, code := 4 }) HC.out HR.out rfl rfl ⟨hf1.le1, hf1.le2, hf1.le3⟩ rfl (fun h => absurd h (by decide)) (by ((repeat (first | (with_reducible refine Below.drew ?_) | (with_reducible refine Below.setCell ?_ (by simp <;> omega) _) | (with_reducible refine Below.alloc ?_ (by simp <;> omega) _))); exact (HR2).out.bel)))
    case pos =>
      have HI := hid hin
      have HR := hid ((HRR.out (0, 1, last + N / 16, N % 16)).2 (by rw [if_neg hz, if_neg hnk, if_pos hst, if_pos hin]))
      clear hz hk hnk hin HRR
      unfold agg
      go_enter Try.func56, Try.ntmps56
      go_wp2_with fail
      refine (rbyte_any c _ hf).mono ?_; rintro e w1 ⟨rfl, hw1⟩
      rw [HT.out, HB.out]
      have R1 := R0.ext hw1
      obtain ⟨⟨p0, p1, p2, p3, f0, f1, f2, f3⟩, ⟨r0, r1, r2, r3, g0, g1, g2, g3⟩, z0, z1⟩ := R1.cells
      have HR1 := hid R1
      clear R0 R1 hw1
      unfold agg
      simp only []
      go_wp2_with fail
      refine (ris_any (N % 16) _ (by omega) (by omega)).mono ?_; rintro e w2 ⟨rfl, rfl⟩
      rw [HK.out]
      go_wp2_with fail
      refine (rnumb_any (last + N / 16) _).mono ?_; rintro e w2 ⟨rfl, rfl⟩
      rw [HI.out]
      go_wp2_with fail
      exact bodyPost_ret (v := .tuple #[.agg #[Sv c.s, .int .i64 (c.pos + 1 : Nat), .int .i64 c.en, .int .i64 c.code], .int .i64 (last + N / 16), .int .u8 (N % 16)]) (by simp only [results, Try.results56]; go_simp) rfl
        (RLPost.mk_ok (c' := { c with pos := c.pos + 1 }) HC.out HR.out rfl rfl hf1 HC.out (fun _ => rfl) (by ((repeat (first | (with_reducible refine Below.drew ?_) | (with_reducible refine Below.setCell ?_ (by simp <;> omega) _) | (with_reducible refine Below.alloc ?_ (by simp <;> omega) _))); exact (HR1).out.bel)))
  have h16 : N < 16 := by omega
  generalize hA : ({ c with pos := c.pos + 1 } : Cu).ahead = A at HRR
  by_cases hv : vcode A = 0
  case neg =>
    have HR := hid ((HRR.out (vcode A, 0, 0, 0)).2 (by rw [if_neg hz, if_neg hnk, if_neg hst, if_neg hv]))
    have HVA := hid (congrArg vcode hA)
    have HV := hid hv
    clear hz hk hnk hv hA HRR
    unfold agg
    go_enter Try.func56, Try.ntmps56
    go_wp2_with fail
    refine (rbyte_any c _ hf).mono ?_; rintro e w1 ⟨rfl, hw1⟩
    rw [HT.out, HB.out]
    have R1 := R0.ext hw1
    obtain ⟨⟨p0, p1, p2, p3, f0, f1, f2, f3⟩, ⟨r0, r1, r2, r3, g0, g1, g2, g3⟩, z0, z1⟩ := R1.cells
    have HR1 := hid (R1.put { c with pos := c.pos + 1 })
    clear R0 R1 hw1
    unfold agg
    simp only []
    go_wp2_with fail
    refine (ris_any (N % 16) _ (by omega) (by omega)).mono ?_; rintro e w2 ⟨rfl, rfl⟩
    rw [HK.out]
    go_wp2_with fail
    refine (rvread_any ({ c with pos := c.pos + 1 } : Cu) _ hf1).mono ?_; rintro e w3 ⟨c2, u, rfl, hv3, hw3⟩
    obtain ⟨e1, _, _⟩ := hv3.good HC.out
    rw [HVA.out] at e1
    have hne : (c2.code != 0) = true := by rw [e1]; simpa using HV.out
    have E1 := hid e1
    have HS := hid hv3.s
    have HE := hid hv3.en
    have hf3 := hv3.fit
    clear e1 hv3
    have R2 := HR1.out.ext hw3
    obtain ⟨⟨p0, p1, p2, p3, f0, f1, f2, f3⟩, ⟨r0, r1, r2, r3, g0, g1, g2, g3⟩, z0, z1⟩ := R2.cells
    have HR2 := hid R2
    clear R2 hw3 HR1
    unfold agg
    simp only []
    go_wp2_with fail
    exact bodyPost_ret (v := .tuple #[.agg #[Sv c2.s, .int .i64 c2.pos, .int .i64 c2.en, .int .i64 c2.code], .int .i64 0, .int .u8 0]) (by simp only [results, Try.results56]; go_simp) rfl
      (RLPost.mk_ok (c' := c2) HC.out HR.out HS.out HE.out hf3 E1.out (fun h => absurd h HV.out) (by ((repeat (first | (with_reducible refine Below.drew ?_) | (with_reducible refine Below.setCell ?_ (by simp <;> omega) _) | (with_reducible refine Below.alloc ?_ (by simp <;> omega) _))); exact (HR2).out.bel)))
  obtain ⟨u0, u1⟩ := vnum_bd A
  generalize hU : vnum A = U at u0 u1 HRR
  have HU := hid ((congrArg vnum hA).trans hU)
  have HV := hid ((congrArg vcode hA).trans hv)
  have HL := hid (congrArg (vlen 10) hA)
  generalize hZ : zagV U = Z at HRR
  have HZ := hid hZ
  generalize hLL : vlen 10 A = L at HL HRR
  by_cases hin : inR Z = true
  case pos =>
    have HI := hid hin
    have HR := hid ((HRR.out (0, 1 + L, Z, N % 16)).2 (by rw [if_neg hz, if_neg hnk, if_neg hst, if_pos hv, if_pos hin]))
    clear hz hk hnk hin hv hU hZ hA HRR hLL
    unfold agg
    go_enter Try.func56, Try.ntmps56
    go_wp2_with fail
    refine (rbyte_any c _ hf).mono ?_; rintro e w1 ⟨rfl, hw1⟩
    rw [HT.out, HB.out]
    have R1 := R0.ext hw1
    obtain ⟨⟨p0, p1, p2, p3, f0, f1, f2, f3⟩, ⟨r0, r1, r2, r3, g0, g1, g2, g3⟩, z0, z1⟩ := R1.cells
    have HR1 := hid (R1.put { c with pos := c.pos + 1 })
    clear R0 R1 hw1
    unfold agg
    simp only []
    go_wp2_with fail
    refine (ris_any (N % 16) _ (by omega) (by omega)).mono ?_; rintro e w2 ⟨rfl, rfl⟩
    rw [HK.out]
    go_wp2_with fail
    refine (rvread_any ({ c with pos := c.pos + 1 } : Cu) _ hf1).mono ?_; rintro e w3 ⟨c2, u, rfl, hv3, hw3⟩
    obtain ⟨e1, e2, e3⟩ := hv3.good HC.out
    obtain rfl := e3 HV.out
    rw [e2, HU.out]
    have hf3 := hv3.fit
    rw [HL.out] at hf3 
    rw [HL.out]
    clear e1 e2 e3 hv3
    have R2 := HR1.out.ext hw3
    obtain ⟨⟨p0, p1, p2, p3, f0, f1, f2, f3⟩, ⟨r0, r1, r2, r3, g0, g1, g2, g3⟩, z0, z1⟩ := R2.cells
    have HR2 := hid R2
    clear R2 hw3 HR1
    unfold agg
    simp only []
    go_wp2_with fail
    refine (rzag_any U _ u0 u1).mono ?_; rintro e w4 ⟨rfl, rfl⟩
    rw [HZ.out]
    go_wp2_with fail
    refine (rnumb_any Z _).mono ?_; rintro e w2 ⟨rfl, rfl⟩
    rw [HI.out]
    go_wp2_with fail
    exact bodyPost_ret (v := .tuple #[.agg #[Sv c.s, .int .i64 (c.pos + 1 + L : Nat), .int .i64 c.en, .int .i64 c.code], .int .i64 Z, .int .u8 (N % 16)]) (by simp only [results, Try.results56]; go_simp) rfl
      (RLPost.mk_ok (c' := { c with pos := c.pos + 1 + L }) HC.out HR.out rfl rfl hf3 HC.out (fun _ => by rw [Nat.add_assoc]) (by ((repeat (first | (with_reducible refine Below.drew ?_) | (with_reducible refine Below.setCell ?_ (by simp <;> omega) _) | (with_reducible refine Below.alloc ?_ (by simp <;> omega) _))); exact (HR2).out.bel)))
  case neg =>
    have HI := hid (show inR Z = false by simpa using hin)
    have HR := hid ((HRR.out (4, 0, 0, 0)).2 (by rw [if_neg hz, if_neg hnk, if_neg hst, if_pos hv, if_neg hin]))
    clear hz hk hnk hin hv hU hZ hA HRR hLL
    unfold agg
    go_enter Try.func56, Try.ntmps56
    go_wp2_with fail
    refine (rbyte_any c _ hf).mono ?_; rintro e w1 ⟨rfl, hw1⟩
    rw [HT.out, HB.out]
    have R1 := R0.ext hw1
    obtain ⟨⟨p0, p1, p2, p3, f0, f1, f2, f3⟩, ⟨r0, r1, r2, r3, g0, g1, g2, g3⟩, z0, z1⟩ := R1.cells
    have HR1 := hid (R1.put { c with pos := c.pos + 1 })
    clear R0 R1 hw1
    unfold agg
    simp only []
    go_wp2_with fail
    refine (ris_any (N % 16) _ (by omega) (by omega)).mono ?_; rintro e w2 ⟨rfl, rfl⟩
    rw [HK.out]
    go_wp2_with fail
    refine (rvread_any ({ c with pos := c.pos + 1 } : Cu) _ hf1).mono ?_; rintro e w3 ⟨c2, u, rfl, hv3, hw3⟩
    obtain ⟨e1, e2, e3⟩ := hv3.good HC.out
    obtain rfl := e3 HV.out
    rw [e2, HU.out]
    have hf3 := hv3.fit
    rw [HL.out] at hf3 
    rw [HL.out]
    clear e1 e2 e3 hv3
    have R2 := HR1.out.ext hw3
    obtain ⟨⟨p0, p1, p2, p3, f0, f1, f2, f3⟩, ⟨r0, r1, r2, r3, g0, g1, g2, g3⟩, z0, z1⟩ := R2.cells
    have HR2 := hid R2
    clear R2 hw3 HR1
    unfold agg
    simp only []
    go_wp2_with fail
    refine (rzag_any U _ u0 u1).mono ?_; rintro e w4 ⟨rfl, rfl⟩
    rw [HZ.out]
    go_wp2_with fail
    refine (rnumb_any Z _).mono ?_; rintro e w2 ⟨rfl, rfl⟩
    rw [HI.out]
    go_wp2_with fail
    refine (rfail_any { c with pos := c.pos + 1 + L } 4 _).mono ?_; rintro e w5 ⟨rfl, hw5⟩
    rw [fail_at _ HC.out]
    have R5 := ((HR2.out.put { c with pos := c.pos + 1 + L }).ext (ext_alloc _ _)).ext hw5
    obtain ⟨⟨p0, p1, p2, p3, f0, f1, f2, f3⟩, ⟨r0, r1, r2, r3, g0, g1, g2, g3⟩, z0, z1⟩ := R5.cells
    have HR5 := hid R5
    clear R5 hw5 HR2
    unfold agg
    simp only []
    go_wp2_with fail
    exact bodyPost_ret (v := .tuple #[.agg #[Sv c.s, .int .i64 (c.pos + 1 + L : Nat), .int .i64 c.en, .int .i64 4], .int .i64 0, .int .u8 0]) (by simp only [results, Try.results56]; go_simp) rfl
      (RLPost.mk_ok (c' := { c with pos := c.pos + 1 + L, code := 4 }) HC.out HR.out rfl rfl ⟨hf3.le1, hf3.le2, hf3.le3⟩ rfl (fun h => absurd h (by decide)) (by ((repeat (first | (with_reducible refine Below.drew ?_) | (with_reducible refine Below.setCell ?_ (by simp <;> omega) _) | (with_reducible refine Below.alloc ?_ (by simp <;> omega) _))); exact (HR5).out.bel)))
end Go.Proofs.Ytdjbgojdkaipfaa
