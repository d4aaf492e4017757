/-
  Walks of the reference of package chead: the head of a list.
-/
import Derived.Test.YtdjbgojdkaipfaaHeadRef
namespace Go.Proofs.Ytdjbgojdkaipfaa
open Go.RowKit

def RLPost (R : Int × Nat × Int × Int) (c : Cu) (w : World) (e : Ending) (w' : World) : Prop :=
  ∃ c' id kind, e = .returned (.tuple #[agg c', .int .i64 id, .int .u8 kind]) ∧ Rd c c' R.1 R.2.1 ∧ (c.code ≠ 0 → id = 0 ∧ kind = 0) ∧
    (c.code = 0 → id = R.2.2.1 ∧ kind = R.2.2.2) ∧ Below w.heap.size w w'
theorem RLPost.mk_bad {R : Int × Nat × Int × Int} {c : Cu} {w w' : World} (h : c.code ≠ 0) (hf : c.fit) (hg : Below w.heap.size w w') : RLPost R c w (.returned (.tuple #[agg c, .int .i64 0, .int .u8 0])) w' :=
  ⟨c, 0, 0, rfl, Rd.refl_bad h hf _ _, fun _ => ⟨rfl, rfl⟩, fun h0 => absurd h0 h, hg⟩
theorem RLPost.mk_ok {R : Int × Nat × Int × Int} {c c' : Cu} {w w' : World} {K : Int} {n : Nat} {id kind : Int} (h : c.code = 0) (hr : R = (K, n, id, kind)) (hs : c'.s = c.s) (he : c'.en = c.en) (hf : c'.fit) (hk : c'.code = K)
    (hp : K = 0 → c' = { c with pos := c.pos + n }) (hg : Below w.heap.size w w') : RLPost R c w (.returned (.tuple #[agg c', .int .i64 id, .int .u8 kind])) w' :=
  ⟨c', id, kind, rfl, ⟨hs, he, hf, fun h0 => absurd h h0, fun _ => ⟨by rw [hr]; exact hk, fun h0 => by rw [hr] at h0 ⊢; exact hp h0⟩⟩, fun h0 => absurd h h0, fun _ => by rw [hr]; exact ⟨rfl, rfl⟩, hg⟩
set_option maxRecDepth 100000 in
set_option maxHeartbeats 4000000 in
theorem rlisthead_any (c : Cu) (w : World) (hf : c.fit) :
    Calls Try.prog 70 #[agg c] w fun e w' => RLPost (listR c.ahead) c w e w' := by
  have R0 := R2.new w c
  by_cases hc0 : c.code = 0
  case neg =>
    have hne : (c.code != 0) = true := by simpa using hc0
    have HT := hid (Cu.take_bad hc0 1)
    have HB := hid (show c.byte = 0 by simp [Cu.byte, Cu.why, hc0])
    have HC := hid hc0
    clear hc0
    unfold agg
    go_enter Try.func70, Try.ntmps70
    go_wp2_with fail
    refine (rbyte_any c _ hf).mono ?_; rintro e w1 ⟨rfl, hw1⟩
    rw [HT.out, HB.out]
    have R1 := R0.ext hw1
    obtain ⟨⟨p0, p1, p2, p3, f0, f1, f2, f3⟩, ⟨r0, r1, r2, r3, g0, g1, g2, g3⟩, z0, z1⟩ := R1.cells
    have HR1 := hid R1
    clear R0 R1 hw1
    unfold agg
    simp only []
    go_wp2_with fail
    exact bodyPost_ret (v := .tuple #[.agg #[Sv c.s, .int .i64 c.pos, .int .i64 c.en, .int .i64 c.code], .int .i64 0, .int .u8 0]) (by simp only [results, Try.results70]; go_simp) rfl
      (RLPost.mk_bad HC.out hf (by ((repeat (first | (with_reducible refine Below.drew ?_) | (with_reducible refine Below.setCell ?_ (by simp <;> omega) _) | (with_reducible refine Below.alloc ?_ (by simp <;> omega) _))); exact (HR1).out.bel)))
  by_cases hlt : c.pos < c.en
  case neg =>
    obtain ⟨ht, hb⟩ := Cu.take_cut hc0 hlt
    have HR := hid (show listR c.ahead = (1, 0, 0, 0) by rw [ahead_nil hlt]; rfl)
    have HT := hid ht
    have HB := hid hb
    have HC := hid hc0
    clear ht hb hc0
    unfold agg
    go_enter Try.func70, Try.ntmps70
    go_wp2_with fail
    refine (rbyte_any c _ hf).mono ?_; rintro e w1 ⟨rfl, hw1⟩
    rw [HT.out, HB.out]
    have R1 := R0.ext hw1
    obtain ⟨⟨p0, p1, p2, p3, f0, f1, f2, f3⟩, ⟨r0, r1, r2, r3, g0, g1, g2, g3⟩, z0, z1⟩ := R1.cells
    have HR1 := hid R1
    clear R0 R1 hw1
    unfold agg
    simp only []
    go_wp2_with fail
    exact bodyPost_ret (v := .tuple #[.agg #[Sv c.s, .int .i64 c.pos, .int .i64 c.en, .int .i64 1], .int .i64 0, .int .u8 0]) (by simp only [results, Try.results70]; go_simp) rfl
      (RLPost.mk_ok (c' := { c with code := 1 }) HC.out HR.out rfl rfl ⟨hf.le1, hf.le2, hf.le3⟩ rfl (fun h => absurd h (by decide)) (by ((repeat (first | (with_reducible refine Below.drew ?_) | (with_reducible refine Below.setCell ?_ (by simp <;> omega) _) | (with_reducible refine Below.alloc ?_ (by simp <;> omega) _))); exact (HR1).out.bel)))
  obtain ⟨ht, hb⟩ := Cu.take_ok hc0 hlt
  have hf1 : ({ c with pos := c.pos + 1 } : Cu).fit := ⟨hlt, hf.le2, hf.le3⟩
  have hah := ahead_cons hlt hf
  have n1 := byteAt_lo c.s c.pos
  have n2 := byteAt_hi c.s c.pos
  have hR : ∀ r, listR c.ahead = r ↔ listR (UInt8.ofNat (byteAt c.s c.pos).toNat :: ({ c with pos := c.pos + 1 } : Cu).ahead) = r := fun r => by rw [← hah]
  simp only [listR, bi_ofByteAt] at hR
  generalize hN : byteAt c.s c.pos = N at n1 n2 hb hR
  have HRR := hid hR
  have HT := hid ht
  have HB := hid hb
  have HC := hid hc0
  have hcode : (c.code != 0) = false := by rw [hc0]; rfl
  have hcode2 : (c.code == 0) = true := by rw [hc0]; rfl
  have ht16 : N.tmod 16 = N % 16 := Int.tmod_eq_emod_of_nonneg n1
  have hd16 : N.tdiv 16 = N / 16 := Int.tdiv_eq_ediv_of_nonneg n1
  have k0 : 0 ≤ N % 16 := by omega
  have k1 : N % 16 ≤ 255 := by omega
  clear ht hb hc0 hah hN hR
  by_cases hk : isK (N % 16) = true
  case neg =>
    have hkf : isK (N % 16) = false := by simpa using hk
    have HR := hid ((HRR.out (7, 0, 0, 0)).2 (by rw [if_pos hkf]))
    have HK := hid hkf
    clear hk hkf HRR
    unfold agg
    go_enter Try.func70, Try.ntmps70
    go_wp2_with fail
    refine (rbyte_any c _ hf).mono ?_; rintro e w1 ⟨rfl, hw1⟩
    rw [HT.out, HB.out]
    have R1 := R0.ext hw1
    obtain ⟨⟨p0, p1, p2, p3, f0, f1, f2, f3⟩, ⟨r0, r1, r2, r3, g0, g1, g2, g3⟩, z0, z1⟩ := R1.cells
    have HR1 := hid (R1.put { c with pos := c.pos + 1 })
    clear R0 R1 hw1
    unfold agg
    simp only []
    go_wp2_with fail
    refine (ris_any (N % 16) _ (by omega) (by omega)).mono ?_; rintro e w2 ⟨rfl, rfl⟩
    rw [HK.out]
    go_wp2_with fail
    refine (rfail_any ({ c with pos := c.pos + 1 } : Cu) 7 _).mono ?_; rintro e w2 ⟨rfl, hw2⟩
    rw [fail_ok _ HC.out]
    have R2 := HR1.out.ext hw2
    obtain ⟨⟨p0, p1, p2, p3, f0, f1, f2, f3⟩, ⟨r0, r1, r2, r3, g0, g1, g2, g3⟩, z0, z1⟩ := R2.cells
    have HR2 := hid R2
    clear R2 hw2 HR1
    unfold agg
    simp only []
    go_wp2_with fail
    exact bodyPost_ret (v := .tuple #[.agg #[Sv c.s, .int .i64 (c.pos + 1 : Nat), .int .i64 c.en, .int .i64 7], .int .i64 0, .int .u8 0]) (by simp only [results, Try.results70]; go_simp) rfl
      (RLPost.mk_ok (c' := { c with pos := c.pos + 1, code := 7 }) HC.out HR.out rfl rfl ⟨hf1.le1, hf1.le2, hf1.le3⟩ rfl (fun h => absurd h (by decide)) (by ((repeat (first | (with_reducible refine Below.drew ?_) | (with_reducible refine Below.setCell ?_ (by simp <;> omega) _) | (with_reducible refine Below.alloc ?_ (by simp <;> omega) _))); exact (HR2).out.bel)))
  have HK := hid hk
  have hnk : ¬ isK (N % 16) = false := by rw [hk]; simp
  by_cases h15 : N / 16 = 15
  case neg =>
    have HR := hid ((HRR.out (0, 1, N / 16, N % 16)).2 (by rw [if_neg hnk, if_neg h15]))
    have h240 : N < 240 := by omega
    clear hk hnk HRR
    unfold agg
    go_enter Try.func70, Try.ntmps70
    go_wp2_with fail
    refine (rbyte_any c _ hf).mono ?_; rintro e w1 ⟨rfl, hw1⟩
    rw [HT.out, HB.out]
    have R1 := R0.ext hw1
    obtain ⟨⟨p0, p1, p2, p3, f0, f1, f2, f3⟩, ⟨r0, r1, r2, r3, g0, g1, g2, g3⟩, z0, z1⟩ := R1.cells
    have HR1 := hid R1
    clear R0 R1 hw1
    unfold agg
    simp only []
    go_wp2_with fail
    refine (ris_any (N % 16) _ (by omega) (by omega)).mono ?_; rintro e w2 ⟨rfl, rfl⟩
    rw [HK.out]
    go_wp2_with fail
    exact bodyPost_ret (v := .tuple #[.agg #[Sv c.s, .int .i64 (c.pos + 1 : Nat), .int .i64 c.en, .int .i64 c.code], .int .i64 (N / 16), .int .u8 (N % 16)]) (by simp only [results, Try.results70]; go_simp) rfl
      (RLPost.mk_ok (c' := { c with pos := c.pos + 1 }) HC.out HR.out rfl rfl hf1 HC.out (fun _ => rfl) (by ((repeat (first | (with_reducible refine Below.drew ?_) | (with_reducible refine Below.setCell ?_ (by simp <;> omega) _) | (with_reducible refine Below.alloc ?_ (by simp <;> omega) _))); exact (HR1).out.bel)))
  have h240 : ¬ N < 240 := by omega
  by_cases hv : (sizeR ({ c with pos := c.pos + 1 } : Cu).ahead).1 = 0
  · have HR := hid ((HRR.out (0, 1 + (sizeR ({ c with pos := c.pos + 1 } : Cu).ahead).2.1, (sizeR ({ c with pos := c.pos + 1 } : Cu).ahead).2.2, N % 16)).2 (by rw [if_neg hnk, if_pos h15, if_pos hv]))
    have HV := hid hv
    clear hk hnk hv HRR
    unfold agg
    go_enter Try.func70, Try.ntmps70
    go_wp2_with fail
    refine (rbyte_any c _ hf).mono ?_; rintro e w1 ⟨rfl, hw1⟩
    rw [HT.out, HB.out]
    have R1 := R0.ext hw1
    obtain ⟨⟨p0, p1, p2, p3, f0, f1, f2, f3⟩, ⟨r0, r1, r2, r3, g0, g1, g2, g3⟩, z0, z1⟩ := R1.cells
    have HR1 := hid (R1.put { c with pos := c.pos + 1 })
    clear R0 R1 hw1
    unfold agg
    simp only []
    go_wp2_with fail
    refine (ris_any (N % 16) _ (by omega) (by omega)).mono ?_; rintro e w2 ⟨rfl, rfl⟩
    rw [HK.out]
    go_wp2_with fail
    refine (rsize_any ({ c with pos := c.pos + 1 } : Cu) _ hf1).mono ?_; rintro e w3 ⟨c2, u, rfl, hr3, _, hu3, hw3⟩
    obtain ⟨e1, e3⟩ := hr3.good HC.out
    obtain rfl := e3 HV.out
    obtain rfl := hu3 HC.out
    have hf3 := hr3.fit
    clear e1 e3 hr3 hu3
    generalize hL : (sizeR ({ c with pos := c.pos + 1 } : Cu).ahead).2.1 = L at hf3 HR ⊢
    generalize hU : (sizeR ({ c with pos := c.pos + 1 } : Cu).ahead).2.2 = U at HR ⊢
    clear hL hU
    have R2 := HR1.out.ext hw3
    obtain ⟨⟨p0, p1, p2, p3, f0, f1, f2, f3⟩, ⟨r0, r1, r2, r3, g0, g1, g2, g3⟩, z0, z1⟩ := R2.cells
    have HR2 := hid R2
    clear R2 hw3 HR1
    unfold agg
    simp only []
    go_wp2_with fail
    exact bodyPost_ret (v := .tuple #[.agg #[Sv c.s, .int .i64 (c.pos + 1 + L : Nat), .int .i64 c.en, .int .i64 c.code], .int .i64 U, .int .u8 (N % 16)]) (by simp only [results, Try.results70]; go_simp) rfl
      (RLPost.mk_ok (c' := { c with pos := c.pos + 1 + L }) HC.out HR.out rfl rfl hf3 HC.out (fun _ => by rw [Nat.add_assoc]) (by ((repeat (first | (with_reducible refine Below.drew ?_) | (with_reducible refine Below.setCell ?_ (by simp <;> omega) _) | (with_reducible refine Below.alloc ?_ (by simp <;> omega) _))); exact (HR2).out.bel)))
  · have HR := hid ((HRR.out ((sizeR ({ c with pos := c.pos + 1 } : Cu).ahead).1, 0, 0, 0)).2 (by rw [if_neg hnk, if_pos h15, if_neg hv]))
    have HV := hid hv
    clear hk hnk hv HRR
    unfold agg
    go_enter Try.func70, Try.ntmps70
    go_wp2_with fail
    refine (rbyte_any c _ hf).mono ?_; rintro e w1 ⟨rfl, hw1⟩
    rw [HT.out, HB.out]
    have R1 := R0.ext hw1
    obtain ⟨⟨p0, p1, p2, p3, f0, f1, f2, f3⟩, ⟨r0, r1, r2, r3, g0, g1, g2, g3⟩, z0, z1⟩ := R1.cells
    have HR1 := hid (R1.put { c with pos := c.pos + 1 })
    clear R0 R1 hw1
    unfold agg
    simp only []
    go_wp2_with fail
    refine (ris_any (N % 16) _ (by omega) (by omega)).mono ?_; rintro e w2 ⟨rfl, rfl⟩
    rw [HK.out]
    go_wp2_with fail
    refine (rsize_any ({ c with pos := c.pos + 1 } : Cu) _ hf1).mono ?_; rintro e w3 ⟨c2, u, rfl, hr3, _, hu3, hw3⟩
    obtain ⟨e1, _⟩ := hr3.good HC.out
    have hne : (c2.code != 0) = true := by rw [e1]; simpa using HV.out
    have E1 := hid e1
    have HS := hid hr3.s
    have HE := hid hr3.en
    have hf3 := hr3.fit
    clear e1 hr3 hu3
    have R2 := HR1.out.ext hw3
    obtain ⟨⟨p0, p1, p2, p3, f0, f1, f2, f3⟩, ⟨r0, r1, r2, r3, g0, g1, g2, g3⟩, z0, z1⟩ := R2.cells
    have HR2 := hid R2
    clear R2 hw3 HR1
    unfold agg
    simp only []
    go_wp2_with fail
    exact bodyPost_ret (v := .tuple #[.agg #[Sv c2.s, .int .i64 c2.pos, .int .i64 c2.en, .int .i64 c2.code], .int .i64 0, .int .u8 0]) (by simp only [results, Try.results70]; go_simp) rfl
      (RLPost.mk_ok (c' := c2) HC.out HR.out HS.out HE.out hf3 E1.out (fun h => absurd h HV.out) (by ((repeat (first | (with_reducible refine Below.drew ?_) | (with_reducible refine Below.setCell ?_ (by simp <;> omega) _) | (with_reducible refine Below.alloc ?_ (by simp <;> omega) _))); exact (HR2).out.bel)))
end Go.Proofs.Ytdjbgojdkaipfaa
