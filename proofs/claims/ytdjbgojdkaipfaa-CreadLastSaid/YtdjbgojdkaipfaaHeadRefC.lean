/-
  Walks of the reference of package chead: the head of a map.
-/
import Derived.Test.YtdjbgojdkaipfaaHeadRefB
namespace Go.Proofs.Ytdjbgojdkaipfaa
open Go.RowKit

def RMPost (R : Int × Nat × Int × Int × Int) (c : Cu) (w : World) (e : Ending) (w' : World) : Prop :=
  ∃ c' n k v, e = .returned (.tuple #[agg c', .int .i64 n, .int .u8 k, .int .u8 v]) ∧ Rd c c' R.1 R.2.1 ∧ (c.code ≠ 0 → n = 0 ∧ k = 0 ∧ v = 0) ∧
    (c.code = 0 → n = R.2.2.1 ∧ k = R.2.2.2.1 ∧ v = R.2.2.2.2) ∧ Below w.heap.size w w'
theorem RMPost.mk_bad {R : Int × Nat × Int × Int × Int} {c : Cu} {w w' : World} (h : c.code ≠ 0) (hf : c.fit) (hg : Below w.heap.size w w') : RMPost R c w (.returned (.tuple #[agg c, .int .i64 0, .int .u8 0, .int .u8 0])) w' :=
  ⟨c, 0, 0, 0, rfl, Rd.refl_bad h hf _ _, fun _ => ⟨rfl, rfl, rfl⟩, fun h0 => absurd h0 h, hg⟩
theorem RMPost.mk_ok {R : Int × Nat × Int × Int × Int} {c c' : Cu} {w w' : World} {K : Int} {n : Nat} {u k v : Int} (h : c.code = 0) (hr : R = (K, n, u, k, v)) (hs : c'.s = c.s) (he : c'.en = c.en) (hf : c'.fit) (hk : c'.code = K)
    (hp : K = 0 → c' = { c with pos := c.pos + n }) (hg : Below w.heap.size w w') : RMPost R c w (.returned (.tuple #[agg c', .int .i64 u, .int .u8 k, .int .u8 v])) w' :=
  ⟨c', u, k, v, rfl, ⟨hs, he, hf, fun h0 => absurd h h0, fun _ => ⟨by rw [hr]; exact hk, fun h0 => by rw [hr] at h0 ⊢; exact hp h0⟩⟩, fun h0 => absurd h h0, fun _ => by rw [hr]; exact ⟨rfl, rfl, rfl⟩, hg⟩
set_option maxRecDepth 100000 in
set_option maxHeartbeats 4000000 in
theorem rmaphead_any (c : Cu) (w : World) (hf : c.fit) :
    Calls Try.prog 72 #[agg c] w fun e w' => RMPost (mapR c.ahead) c w e w' := by
  have R0 := R2.new w c
  by_cases hc0 : c.code = 0
  case neg =>
    have hne : (c.code != 0) = true := by simpa using hc0
    have HC := hid hc0
    clear hc0
    unfold agg
    go_enter Try.func72, Try.ntmps72
    go_wp2_with fail
    refine (rsize_any c _ hf).mono ?_; rintro e w1 ⟨c2, u, rfl, hr1, hu1, _, hw1⟩
    obtain rfl := hu1 HC.out
    obtain rfl := hr1.bad HC.out
    clear hr1 hu1
    have R1 := R0.ext hw1
    obtain ⟨⟨p0, p1, p2, p3, f0, f1, f2, f3⟩, ⟨r0, r1, r2, r3, g0, g1, g2, g3⟩, z0, z1⟩ := R1.cells
    have HR1 := hid R1
    clear R0 R1 hw1
    unfold agg
    simp only []
    go_wp2_with fail
    exact bodyPost_ret (v := .tuple #[.agg #[Sv c2.s, .int .i64 c2.pos, .int .i64 c2.en, .int .i64 c2.code], .int .i64 0, .int .u8 0, .int .u8 0]) (by simp only [results, Try.results72]; go_simp) rfl
      (RMPost.mk_bad HC.out hf (by ((repeat (first | (with_reducible refine Below.drew ?_) | (with_reducible refine Below.setCell ?_ (by simp <;> omega) _) | (with_reducible refine Below.alloc ?_ (by simp <;> omega) _))); exact (HR1).out.bel)))
  have HC := hid hc0
  have hcode : (c.code != 0) = false := by rw [hc0]; rfl
  have hcode2 : (c.code == 0) = true := by rw [hc0]; rfl
  obtain ⟨u0, u1, uz⟩ := sizeR_bd c.ahead
  by_cases hv : (sizeR c.ahead).1 = 0
  case neg =>
    have HR := hid (show mapR c.ahead = ((sizeR c.ahead).1, 0, 0, 0, 0) by rw [mapR, if_neg hv])
    have HU := hid (uz hv)
    have HV := hid hv
    clear hc0 hv u0 u1 uz
    unfold agg
    go_enter Try.func72, Try.ntmps72
    go_wp2_with fail
    refine (rsize_any c _ hf).mono ?_; rintro e w1 ⟨c2, u, rfl, hr1, _, hu1, hw1⟩
    obtain ⟨e1, _⟩ := hr1.good HC.out
    have huz := (hu1 HC.out).trans HU.out
    subst huz
    have hne : (c2.code != 0) = true := by rw [e1]; simpa using HV.out
    have E1 := hid e1
    have HS := hid hr1.s
    have HE := hid hr1.en
    have hf3 := hr1.fit
    clear e1 hr1 hu1
    have R1 := R0.ext hw1
    obtain ⟨⟨p0, p1, p2, p3, f0, f1, f2, f3⟩, ⟨r0, r1, r2, r3, g0, g1, g2, g3⟩, z0, z1⟩ := R1.cells
    have HR1 := hid R1
    clear R0 R1 hw1
    unfold agg
    simp only []
    go_wp2_with fail
    exact bodyPost_ret (v := .tuple #[.agg #[Sv c2.s, .int .i64 c2.pos, .int .i64 c2.en, .int .i64 c2.code], .int .i64 0, .int .u8 0, .int .u8 0]) (by simp only [results, Try.results72]; go_simp) rfl
      (RMPost.mk_ok (c' := c2) HC.out HR.out HS.out HE.out hf3 E1.out (fun h => absurd h HV.out) (by ((repeat (first | (with_reducible refine Below.drew ?_) | (with_reducible refine Below.setCell ?_ (by simp <;> omega) _) | (with_reducible refine Below.alloc ?_ (by simp <;> omega) _))); exact (HR1).out.bel)))
  generalize hn : (sizeR c.ahead).2.1 = n
  have HN := hid hn
  have HV := hid hv
  by_cases hz : (sizeR c.ahead).2.2 = 0
  · have HR := hid (show mapR c.ahead = (0, n, 0, 0, 0) by rw [mapR, if_pos hv, if_pos hz, hn])
    have HU := hid hz
    clear hc0 hv hz u0 u1 uz hn
    unfold agg
    go_enter Try.func72, Try.ntmps72
    go_wp2_with fail
    refine (rsize_any c _ hf).mono ?_; rintro e w1 ⟨c2, u', rfl, hr1, _, hu1, hw1⟩
    obtain ⟨e1, e3⟩ := hr1.good HC.out
    obtain rfl := e3 HV.out
    have hf3 := hr1.fit
    rw [(hu1 HC.out).trans HU.out]
    clear e1 e3 hr1 hu1
    rw [HN.out] at hf3
    rw [HN.out]
    have R1 := R0.ext hw1
    obtain ⟨⟨p0, p1, p2, p3, f0, f1, f2, f3⟩, ⟨r0, r1, r2, r3, g0, g1, g2, g3⟩, z0, z1⟩ := R1.cells
    have HR1 := hid R1
    clear R0 R1 hw1
    unfold agg
    simp only []
    go_wp2_with fail
    exact bodyPost_ret (v := .tuple #[.agg #[Sv c.s, .int .i64 (c.pos + n : Nat), .int .i64 c.en, .int .i64 c.code], .int .i64 0, .int .u8 0, .int .u8 0]) (by simp only [results, Try.results72]; go_simp) rfl
      (RMPost.mk_ok (c' := { c with pos := c.pos + n }) HC.out HR.out rfl rfl hf3 HC.out (fun _ => rfl) (by ((repeat (first | (with_reducible refine Below.drew ?_) | (with_reducible refine Below.setCell ?_ (by simp <;> omega) _) | (with_reducible refine Below.alloc ?_ (by simp <;> omega) _))); exact (HR1).out.bel)))
  have HR0 := hid (show mapR c.ahead = mapR2 (sizeR c.ahead).2.1 (sizeR c.ahead).2.2 (({ c with pos := c.pos + (sizeR c.ahead).2.1 } : Cu).ahead) by rw [mapR, if_pos hv, if_neg hz, ahead_drop])
  have hub : ((sizeR c.ahead).2.2 == 0) = false := by simpa using hz
  rw [hn] at HR0
  clear hv hz uz hn
  generalize hu : (sizeR c.ahead).2.2 = u at HR0 hub u0 u1
  have HU := hid hu
  clear hu
  by_cases hlt : c.pos + n < c.en
  case neg =>
    obtain ⟨ht, hb⟩ := Cu.take_cut (c := { c with pos := c.pos + n }) hc0 hlt
    have HR := hid (show mapR c.ahead = (1, 0, 0, 0, 0) by rw [HR0.out, ahead_nil hlt]; rfl)
    have HT := hid ht
    have HB := hid hb
    clear hc0 ht hb
    unfold agg
    go_enter Try.func72, Try.ntmps72
    go_wp2_with fail
    refine (rsize_any c _ hf).mono ?_; rintro e w1 ⟨c2, u', rfl, hr1, _, hu1, hw1⟩
    obtain ⟨e1, e3⟩ := hr1.good HC.out
    obtain rfl := e3 HV.out
    have hf3 := hr1.fit
    rw [(hu1 HC.out).trans HU.out]
    clear e1 e3 hr1 hu1
    rw [HN.out] at hf3
    rw [HN.out]
    have R1 := R0.ext hw1
    obtain ⟨⟨p0, p1, p2, p3, f0, f1, f2, f3⟩, ⟨r0, r1, r2, r3, g0, g1, g2, g3⟩, z0, z1⟩ := R1.cells
    have HR1 := hid (R1.put { c with pos := c.pos + n })
    clear R0 R1 hw1
    unfold agg
    simp only []
    go_wp2_with fail
    refine (rbyte_any ({ c with pos := c.pos + n } : Cu) _ hf3).mono ?_; rintro e w2 ⟨rfl, hw2⟩
    rw [HT.out, HB.out]
    have R3 := HR1.out.ext hw2
    obtain ⟨⟨p0, p1, p2, p3, f0, f1, f2, f3⟩, ⟨r0, r1, r2, r3, g0, g1, g2, g3⟩, z0, z1⟩ := R3.cells
    have HR3 := hid R3
    clear HR1 R3 hw2
    unfold agg
    simp only []
    go_wp2_with fail
    exact bodyPost_ret (v := .tuple #[.agg #[Sv c.s, .int .i64 (c.pos + n : Nat), .int .i64 c.en, .int .i64 1], .int .i64 0, .int .u8 0, .int .u8 0]) (by simp only [results, Try.results72]; go_simp) rfl
      (RMPost.mk_ok (c' := { c with pos := c.pos + n, code := 1 }) HC.out HR.out rfl rfl ⟨hf3.le1, hf3.le2, hf3.le3⟩ rfl (fun h => absurd h (by decide)) (by ((repeat (first | (with_reducible refine Below.drew ?_) | (with_reducible refine Below.setCell ?_ (by simp <;> omega) _) | (with_reducible refine Below.alloc ?_ (by simp <;> omega) _))); exact (HR3).out.bel)))
  obtain ⟨ht, hb⟩ := Cu.take_ok (c := { c with pos := c.pos + n }) hc0 hlt
  have hf0 : ({ c with pos := c.pos + n } : Cu).fit := ⟨Nat.le_of_lt hlt, hf.le2, hf.le3⟩
  have hf1 : ({ c with pos := c.pos + n + 1 } : Cu).fit := ⟨hlt, hf.le2, hf.le3⟩
  have hah := ahead_cons (c := { c with pos := c.pos + n }) hlt hf0
  have n1 := byteAt_lo c.s (c.pos + n)
  have n2 := byteAt_hi c.s (c.pos + n)
  have hR := HR0.out
  rw [hah] at hR
  simp only [mapR2, bi_ofByteAt] at hR hb
  generalize hN : byteAt c.s (c.pos + n) = N at n1 n2 hb hR
  have ht16 : N.tmod 16 = N % 16 := Int.tmod_eq_emod_of_nonneg n1
  have hd16 : N.tdiv 16 = N / 16 := Int.tdiv_eq_ediv_of_nonneg n1
  have HT := hid ht
  have HB := hid hb
  clear ht hb hah hN hc0 HR0
  by_cases k1 : isK (N / 16) = true
  case neg =>
    have HR := hid (show mapR c.ahead = (7, 0, 0, 0, 0) by rw [hR, if_neg (fun h => k1 h.1)])
    have K1 := hid (show isK (N / 16) = false by simpa using k1)
    clear k1 hR
    unfold agg
    go_enter Try.func72, Try.ntmps72
    go_wp2_with fail
    refine (rsize_any c _ hf).mono ?_; rintro e w1 ⟨c2, u', rfl, hr1, _, hu1, hw1⟩
    obtain ⟨e1, e3⟩ := hr1.good HC.out
    obtain rfl := e3 HV.out
    have hf3 := hr1.fit
    rw [(hu1 HC.out).trans HU.out]
    clear e1 e3 hr1 hu1
    rw [HN.out] at hf3
    rw [HN.out]
    have R1 := R0.ext hw1
    obtain ⟨⟨p0, p1, p2, p3, f0, f1, f2, f3⟩, ⟨r0, r1, r2, r3, g0, g1, g2, g3⟩, z0, z1⟩ := R1.cells
    have HR1 := hid (R1.put { c with pos := c.pos + n })
    clear R0 R1 hw1
    unfold agg
    simp only []
    go_wp2_with fail
    refine (rbyte_any ({ c with pos := c.pos + n } : Cu) _ hf3).mono ?_; rintro e w2 ⟨rfl, hw2⟩
    rw [HT.out, HB.out]
    have R3 := HR1.out.ext hw2
    obtain ⟨⟨p0, p1, p2, p3, f0, f1, f2, f3⟩, ⟨r0, r1, r2, r3, g0, g1, g2, g3⟩, z0, z1⟩ := R3.cells
    have HR3 := hid (R3.put { c with pos := c.pos + n + 1 })
    clear HR1 R3 hw2
    unfold agg
    simp only []
    go_wp2_with fail
    refine (ris_any (N / 16) _ (by omega) (by omega)).mono ?_; rintro e w3 ⟨rfl, rfl⟩
    rw [K1.out]
    go_wp2_with fail
    refine (rfail_any ({ c with pos := c.pos + n + 1 } : Cu) 7 _).mono ?_; rintro e w4 ⟨rfl, hw4⟩
    rw [fail_at _ HC.out]
    have R4 := HR3.out.ext hw4
    obtain ⟨⟨p0, p1, p2, p3, f0, f1, f2, f3⟩, ⟨r0, r1, r2, r3, g0, g1, g2, g3⟩, z0, z1⟩ := R4.cells
    have HR4 := hid R4
    clear R4 hw4 HR3
    unfold agg
    simp only []
    go_wp2_with fail
    exact bodyPost_ret (v := .tuple #[.agg #[Sv c.s, .int .i64 (c.pos + n + 1 : Nat), .int .i64 c.en, .int .i64 7], .int .i64 0, .int .u8 0, .int .u8 0]) (by simp only [results, Try.results72]; go_simp) rfl
      (RMPost.mk_ok (c' := { c with pos := c.pos + n + 1, code := 7 }) HC.out HR.out rfl rfl ⟨hf1.le1, hf1.le2, hf1.le3⟩ rfl (fun h => absurd h (by decide)) (by ((repeat (first | (with_reducible refine Below.drew ?_) | (with_reducible refine Below.setCell ?_ (by simp <;> omega) _) | (with_reducible refine Below.alloc ?_ (by simp <;> omega) _))); exact (HR4).out.bel)))
  have K1 := hid k1
  by_cases k2 : isK (N % 16) = true
  case neg =>
    have HR := hid (show mapR c.ahead = (7, 0, 0, 0, 0) by rw [hR, if_neg (fun h => k2 h.2)])
    have K2 := hid (show isK (N % 16) = false by simpa using k2)
    clear k1 k2 hR
    unfold agg
    go_enter Try.func72, Try.ntmps72
    go_wp2_with fail
    refine (rsize_any c _ hf).mono ?_; rintro e w1 ⟨c2, u', rfl, hr1, _, hu1, hw1⟩
    obtain ⟨e1, e3⟩ := hr1.good HC.out
    obtain rfl := e3 HV.out
    have hf3 := hr1.fit
    rw [(hu1 HC.out).trans HU.out]
    clear e1 e3 hr1 hu1
    rw [HN.out] at hf3
    rw [HN.out]
    have R1 := R0.ext hw1
    obtain ⟨⟨p0, p1, p2, p3, f0, f1, f2, f3⟩, ⟨r0, r1, r2, r3, g0, g1, g2, g3⟩, z0, z1⟩ := R1.cells
    have HR1 := hid (R1.put { c with pos := c.pos + n })
    clear R0 R1 hw1
    unfold agg
    simp only []
    go_wp2_with fail
    refine (rbyte_any ({ c with pos := c.pos + n } : Cu) _ hf3).mono ?_; rintro e w2 ⟨rfl, hw2⟩
    rw [HT.out, HB.out]
    have R3 := HR1.out.ext hw2
    obtain ⟨⟨p0, p1, p2, p3, f0, f1, f2, f3⟩, ⟨r0, r1, r2, r3, g0, g1, g2, g3⟩, z0, z1⟩ := R3.cells
    have HR3 := hid (R3.put { c with pos := c.pos + n + 1 })
    clear HR1 R3 hw2
    unfold agg
    simp only []
    go_wp2_with fail
    refine (ris_any (N / 16) _ (by omega) (by omega)).mono ?_; rintro e w3 ⟨rfl, rfl⟩
    rw [K1.out]
    go_wp2_with fail
    refine (ris_any (N % 16) _ (by omega) (by omega)).mono ?_; rintro e w3 ⟨rfl, rfl⟩
    rw [K2.out]
    go_wp2_with fail
    refine (rfail_any ({ c with pos := c.pos + n + 1 } : Cu) 7 _).mono ?_; rintro e w4 ⟨rfl, hw4⟩
    rw [fail_at _ HC.out]
    have R4 := HR3.out.ext hw4
    obtain ⟨⟨p0, p1, p2, p3, f0, f1, f2, f3⟩, ⟨r0, r1, r2, r3, g0, g1, g2, g3⟩, z0, z1⟩ := R4.cells
    have HR4 := hid R4
    clear R4 hw4 HR3
    unfold agg
    simp only []
    go_wp2_with fail
    exact bodyPost_ret (v := .tuple #[.agg #[Sv c.s, .int .i64 (c.pos + n + 1 : Nat), .int .i64 c.en, .int .i64 7], .int .i64 0, .int .u8 0, .int .u8 0]) (by simp only [results, Try.results72]; go_simp) rfl
      (RMPost.mk_ok (c' := { c with pos := c.pos + n + 1, code := 7 }) HC.out HR.out rfl rfl ⟨hf1.le1, hf1.le2, hf1.le3⟩ rfl (fun h => absurd h (by decide)) (by ((repeat (first | (with_reducible refine Below.drew ?_) | (with_reducible refine Below.setCell ?_ (by simp <;> omega) _) | (with_reducible refine Below.alloc ?_ (by simp <;> omega) _))); exact (HR4).out.bel)))
  have K2 := hid k2
  have HR := hid (show mapR c.ahead = (0, n + 1, u, N / 16, N % 16) by rw [hR, if_pos ⟨k1, k2⟩])
  clear k1 k2 hR
  · unfold agg
    go_enter Try.func72, Try.ntmps72
    go_wp2_with fail
    refine (rsize_any c _ hf).mono ?_; rintro e w1 ⟨c2, u', rfl, hr1, _, hu1, hw1⟩
    obtain ⟨e1, e3⟩ := hr1.good HC.out
    obtain rfl := e3 HV.out
    have hf3 := hr1.fit
    rw [(hu1 HC.out).trans HU.out]
    clear e1 e3 hr1 hu1
    rw [HN.out] at hf3
    rw [HN.out]
    have R1 := R0.ext hw1
    obtain ⟨⟨p0, p1, p2, p3, f0, f1, f2, f3⟩, ⟨r0, r1, r2, r3, g0, g1, g2, g3⟩, z0, z1⟩ := R1.cells
    have HR1 := hid (R1.put { c with pos := c.pos + n })
    clear R0 R1 hw1
    unfold agg
    simp only []
    go_wp2_with fail
    refine (rbyte_any ({ c with pos := c.pos + n } : Cu) _ hf3).mono ?_; rintro e w2 ⟨rfl, hw2⟩
    rw [HT.out, HB.out]
    have R3 := HR1.out.ext hw2
    obtain ⟨⟨p0, p1, p2, p3, f0, f1, f2, f3⟩, ⟨r0, r1, r2, r3, g0, g1, g2, g3⟩, z0, z1⟩ := R3.cells
    have HR3 := hid R3
    clear HR1 R3 hw2
    unfold agg
    simp only []
    go_wp2_with fail
    refine (ris_any (N / 16) _ (by omega) (by omega)).mono ?_; rintro e w3 ⟨rfl, rfl⟩
    rw [K1.out]
    go_wp2_with fail
    refine (ris_any (N % 16) _ (by omega) (by omega)).mono ?_; rintro e w3 ⟨rfl, rfl⟩
    rw [K2.out]
    go_wp2_with fail
    exact bodyPost_ret (v := .tuple #[.agg #[Sv c.s, .int .i64 (c.pos + n + 1 : Nat), .int .i64 c.en, .int .i64 c.code], .int .i64 u, .int .u8 (N / 16), .int .u8 (N % 16)]) (by simp only [results, Try.results72]; go_simp) rfl
      (RMPost.mk_ok (c' := { c with pos := c.pos + n + 1 }) HC.out HR.out rfl rfl hf1 HC.out (fun _ => by rw [Nat.add_assoc]) (by ((repeat (first | (with_reducible refine Below.drew ?_) | (with_reducible refine Below.setCell ?_ (by simp <;> omega) _) | (with_reducible refine Below.alloc ?_ (by simp <;> omega) _))); exact (HR3).out.bel)))
end Go.Proofs.Ytdjbgojdkaipfaa
