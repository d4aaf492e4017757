/-
  Walks of the reference of package cskip: a value of any kind.
-/
import Derived.Test.YtdjbgojdkaipfaaSkipRefC
import Derived.Test.YtdjbgojdkaipfaaSkipD
namespace Go.Proofs.Ytdjbgojdkaipfaa
open Go.RowKit

theorem mapR_val (a : List UInt8) (h : (mapR a).2.2.1 ≠ 0) : (mapR a).2.2.2.2 ≠ 0 := by
  revert h
  unfold mapR
  split
  · split
    · intro h; exact absurd rfl h
    · cases a.drop (sizeR a).2.1 with
      | nil => intro h; exact absurd rfl h
      | cons b r =>
        simp only [mapR2]
        split
        · rename_i hh
          intro _
          have := hh.2
          show bi b % 16 ≠ 0
          intro e
          rw [e] at this
          exact absurd this (by decide)
        · intro h; exact absurd rfl h
  · intro h; exact absurd rfl h
structure BelH (w w' : World) : Prop where
  bel : Below w.heap.size w w'
theorem rd_take1 {c : Cu} (hf : c.fit) : RdF (takeR 1) c (c.take 1) := rd_take 1 hf
theorem rd_take8 {c : Cu} (hf : c.fit) : RdF (takeR 8) c (c.take 8) := rd_take 8 hf
set_option maxRecDepth 100000 in
set_option maxHeartbeats 4000000 in
theorem rvalue_low (h : Int → List UInt8 → Int × Nat) (c : Cu) (kind deep : Int) (w : World) (hf : c.fit) (k0 : 0 ≤ kind) (k1 : kind ≤ 255) (hk : ¬ (9 ≤ kind ∧ kind ≤ 12)) :
    Calls Try.prog 77 #[agg c, .int .u8 kind, .int .i64 deep] w fun e w' => RK (flatR h kind) c w e w' := by
  have R0 := R2.new w c
  have HR0 := hid R0
  obtain ⟨⟨p0, p1, p2, p3, f0, f1, f2, f3⟩, ⟨r0, r1, r2, r3, g0, g1, g2, g3⟩, z0, z1⟩ := R0.cells
  clear R0
  have HW0 := hid (BelH.mk (Below.refl w.heap.size w))
  by_cases hk1 : 1 ≤ kind ∧ kind ≤ 12
  case neg =>
    have HR := hid (flat_else h kind hk1)
    have HI := hid (show isK kind = false from decide_eq_false hk1)
    clear hk hk1
    unfold agg
    go_enter Try.func77, Try.ntmps77
    go_wp2_with fail
    refine (ris_any kind _ k0 k1).mono ?_; rintro e w1 ⟨rfl, rfl⟩
    rw [HI.out]
    go_wp2_with fail
    refine (rfail_any c 7 _).mono ?_; rintro e w2 ⟨rfl, hw2⟩
    generalize hcf : c.fail 7 = cf
    have HF := hid (show RdF (fun _ => (7, 0)) c cf by rw [← hcf]; exact RdF.fail 7 (by decide) hf)
    clear hcf
    have HR1 := hid (HR0.out.ext hw2)
    clear hw2
    clear p0 p1 p2 p3 f0 f1 f2 f3 r0 r1 r2 r3 g0 g1 g2 g3 z0 z1
    obtain ⟨⟨p0, p1, p2, p3, f0, f1, f2, f3⟩, ⟨r0, r1, r2, r3, g0, g1, g2, g3⟩, z0, z1⟩ := HR1.out.cells
    unfold agg
    simp only []
    go_wp2_with fail
    exact bodyPost_ret (v := .agg #[Sv cf.s, .int .i64 cf.pos, .int .i64 cf.en, .int .i64 cf.code]) (by simp only [results, Try.results77]; go_simp) rfl
      (RK.mk (c' := cf) (by rw [HR.out]; exact HF.out) (by ((repeat (first | (with_reducible refine Below.drew ?_) | (with_reducible refine Below.setCell ?_ (by simp <;> omega) _) | (with_reducible refine Below.alloc ?_ (by simp <;> omega) _))); exact (HR1).out.bel)))
  obtain rfl | rfl | rfl | rfl | rfl | rfl | rfl | rfl : kind = 1 ∨ kind = 2 ∨ kind = 3 ∨ kind = 4 ∨ kind = 5 ∨ kind = 6 ∨ kind = 7 ∨ kind = 8 := by omega
  · clear hk hk1
    unfold agg
    go_enter Try.func77, Try.ntmps77
    go_wp2_with fail
    refine (ris_any 1 _ (by decide) (by decide)).mono ?_; rintro e w1 ⟨rfl, rfl⟩
    rw [show isK 1 = true by decide]
    go_wp2_with fail
    refine (rholds_any 1 _).mono ?_; rintro e w1 ⟨rfl, rfl⟩
    rw [show holdsB 1 = false by decide]
    go_wp2_with fail
    exact bodyPost_ret (v := .agg #[Sv c.s, .int .i64 c.pos, .int .i64 c.en, .int .i64 c.code]) (by simp only [results, Try.results77]; go_simp) rfl
      (RK.mk (c' := c) (show RdF (fun _ => (0, 0)) c c from RdF.nil hf) (by ((repeat (first | (with_reducible refine Below.drew ?_) | (with_reducible refine Below.setCell ?_ (by simp <;> omega) _) | (with_reducible refine Below.alloc ?_ (by simp <;> omega) _))); exact (HW0).out.bel)))
  · clear hk hk1
    unfold agg
    go_enter Try.func77, Try.ntmps77
    go_wp2_with fail
    refine (ris_any 2 _ (by decide) (by decide)).mono ?_; rintro e w1 ⟨rfl, rfl⟩
    rw [show isK 2 = true by decide]
    go_wp2_with fail
    refine (rholds_any 2 _).mono ?_; rintro e w1 ⟨rfl, rfl⟩
    rw [show holdsB 2 = false by decide]
    go_wp2_with fail
    exact bodyPost_ret (v := .agg #[Sv c.s, .int .i64 c.pos, .int .i64 c.en, .int .i64 c.code]) (by simp only [results, Try.results77]; go_simp) rfl
      (RK.mk (c' := c) (show RdF (fun _ => (0, 0)) c c from RdF.nil hf) (by ((repeat (first | (with_reducible refine Below.drew ?_) | (with_reducible refine Below.setCell ?_ (by simp <;> omega) _) | (with_reducible refine Below.alloc ?_ (by simp <;> omega) _))); exact (HW0).out.bel)))
  · clear hk hk1
    unfold agg
    go_enter Try.func77, Try.ntmps77
    go_wp2_with fail
    refine (ris_any 3 _ (by decide) (by decide)).mono ?_; rintro e w1 ⟨rfl, rfl⟩
    rw [show isK 3 = true by decide]
    go_wp2_with fail
    refine (rholds_any 3 _).mono ?_; rintro e w1 ⟨rfl, rfl⟩
    rw [show holdsB 3 = false by decide]
    go_wp2_with fail
    refine (rtake_any c 1 _ hf).mono ?_; rintro e w2 ⟨rfl, hw2⟩
    generalize hct : c.take 1 = ct
    have HF := hid (show RdF (takeR 1) c ct by rw [← hct]; exact rd_take1 hf)
    clear hct
    have HR1 := hid (HR0.out.ext hw2)
    clear hw2
    clear p0 p1 p2 p3 f0 f1 f2 f3 r0 r1 r2 r3 g0 g1 g2 g3 z0 z1
    obtain ⟨⟨p0, p1, p2, p3, f0, f1, f2, f3⟩, ⟨r0, r1, r2, r3, g0, g1, g2, g3⟩, z0, z1⟩ := HR1.out.cells
    unfold agg
    simp only []
    go_wp2_with fail
    exact bodyPost_ret (v := .agg #[Sv ct.s, .int .i64 ct.pos, .int .i64 ct.en, .int .i64 ct.code]) (by simp only [results, Try.results77]; go_simp) rfl
      (RK.mk (c' := ct) (show RdF (takeR 1) c ct from HF.out) (by ((repeat (first | (with_reducible refine Below.drew ?_) | (with_reducible refine Below.setCell ?_ (by simp <;> omega) _) | (with_reducible refine Below.alloc ?_ (by simp <;> omega) _))); exact (HR1).out.bel)))
  · clear hk hk1
    unfold agg
    go_enter Try.func77, Try.ntmps77
    go_wp2_with fail
    refine (ris_any 4 _ (by decide) (by decide)).mono ?_; rintro e w1 ⟨rfl, rfl⟩
    rw [show isK 4 = true by decide]
    go_wp2_with fail
    refine (rholds_any 4 _).mono ?_; rintro e w1 ⟨rfl, rfl⟩
    rw [show holdsB 4 = false by decide]
    go_wp2_with fail
    refine (rvread_any c _ hf).mono ?_; rintro e w2 ⟨cv, u, rfl, hv2, hw2⟩
    have HF := hid (rd_var hv2)
    clear hv2
    have HR1 := hid (HR0.out.ext hw2)
    clear hw2
    clear p0 p1 p2 p3 f0 f1 f2 f3 r0 r1 r2 r3 g0 g1 g2 g3 z0 z1
    obtain ⟨⟨p0, p1, p2, p3, f0, f1, f2, f3⟩, ⟨r0, r1, r2, r3, g0, g1, g2, g3⟩, z0, z1⟩ := HR1.out.cells
    unfold agg
    simp only []
    go_wp2_with fail
    exact bodyPost_ret (v := .agg #[Sv cv.s, .int .i64 cv.pos, .int .i64 cv.en, .int .i64 cv.code]) (by simp only [results, Try.results77]; go_simp) rfl
      (RK.mk (c' := cv) (by rw [flat_var h 4 (by decide) (by decide)]; exact HF.out) (by ((repeat (first | (with_reducible refine Below.drew ?_) | (with_reducible refine Below.setCell ?_ (by simp <;> omega) _) | (with_reducible refine Below.alloc ?_ (by simp <;> omega) _))); exact (HR1).out.bel)))
  · clear hk hk1
    unfold agg
    go_enter Try.func77, Try.ntmps77
    go_wp2_with fail
    refine (ris_any 5 _ (by decide) (by decide)).mono ?_; rintro e w1 ⟨rfl, rfl⟩
    rw [show isK 5 = true by decide]
    go_wp2_with fail
    refine (rholds_any 5 _).mono ?_; rintro e w1 ⟨rfl, rfl⟩
    rw [show holdsB 5 = false by decide]
    go_wp2_with fail
    refine (rvread_any c _ hf).mono ?_; rintro e w2 ⟨cv, u, rfl, hv2, hw2⟩
    have HF := hid (rd_var hv2)
    clear hv2
    have HR1 := hid (HR0.out.ext hw2)
    clear hw2
    clear p0 p1 p2 p3 f0 f1 f2 f3 r0 r1 r2 r3 g0 g1 g2 g3 z0 z1
    obtain ⟨⟨p0, p1, p2, p3, f0, f1, f2, f3⟩, ⟨r0, r1, r2, r3, g0, g1, g2, g3⟩, z0, z1⟩ := HR1.out.cells
    unfold agg
    simp only []
    go_wp2_with fail
    exact bodyPost_ret (v := .agg #[Sv cv.s, .int .i64 cv.pos, .int .i64 cv.en, .int .i64 cv.code]) (by simp only [results, Try.results77]; go_simp) rfl
      (RK.mk (c' := cv) (by rw [flat_var h 5 (by decide) (by decide)]; exact HF.out) (by ((repeat (first | (with_reducible refine Below.drew ?_) | (with_reducible refine Below.setCell ?_ (by simp <;> omega) _) | (with_reducible refine Below.alloc ?_ (by simp <;> omega) _))); exact (HR1).out.bel)))
  · clear hk hk1
    unfold agg
    go_enter Try.func77, Try.ntmps77
    go_wp2_with fail
    refine (ris_any 6 _ (by decide) (by decide)).mono ?_; rintro e w1 ⟨rfl, rfl⟩
    rw [show isK 6 = true by decide]
    go_wp2_with fail
    refine (rholds_any 6 _).mono ?_; rintro e w1 ⟨rfl, rfl⟩
    rw [show holdsB 6 = false by decide]
    go_wp2_with fail
    refine (rvread_any c _ hf).mono ?_; rintro e w2 ⟨cv, u, rfl, hv2, hw2⟩
    have HF := hid (rd_var hv2)
    clear hv2
    have HR1 := hid (HR0.out.ext hw2)
    clear hw2
    clear p0 p1 p2 p3 f0 f1 f2 f3 r0 r1 r2 r3 g0 g1 g2 g3 z0 z1
    obtain ⟨⟨p0, p1, p2, p3, f0, f1, f2, f3⟩, ⟨r0, r1, r2, r3, g0, g1, g2, g3⟩, z0, z1⟩ := HR1.out.cells
    unfold agg
    simp only []
    go_wp2_with fail
    exact bodyPost_ret (v := .agg #[Sv cv.s, .int .i64 cv.pos, .int .i64 cv.en, .int .i64 cv.code]) (by simp only [results, Try.results77]; go_simp) rfl
      (RK.mk (c' := cv) (by rw [flat_var h 6 (by decide) (by decide)]; exact HF.out) (by ((repeat (first | (with_reducible refine Below.drew ?_) | (with_reducible refine Below.setCell ?_ (by simp <;> omega) _) | (with_reducible refine Below.alloc ?_ (by simp <;> omega) _))); exact (HR1).out.bel)))
  · clear hk hk1
    unfold agg
    go_enter Try.func77, Try.ntmps77
    go_wp2_with fail
    refine (ris_any 7 _ (by decide) (by decide)).mono ?_; rintro e w1 ⟨rfl, rfl⟩
    rw [show isK 7 = true by decide]
    go_wp2_with fail
    refine (rholds_any 7 _).mono ?_; rintro e w1 ⟨rfl, rfl⟩
    rw [show holdsB 7 = false by decide]
    go_wp2_with fail
    refine (rtake_any c 8 _ hf).mono ?_; rintro e w2 ⟨rfl, hw2⟩
    generalize hct : c.take 8 = ct
    have HF := hid (show RdF (takeR 8) c ct by rw [← hct]; exact rd_take8 hf)
    clear hct
    have HR1 := hid (HR0.out.ext hw2)
    clear hw2
    clear p0 p1 p2 p3 f0 f1 f2 f3 r0 r1 r2 r3 g0 g1 g2 g3 z0 z1
    obtain ⟨⟨p0, p1, p2, p3, f0, f1, f2, f3⟩, ⟨r0, r1, r2, r3, g0, g1, g2, g3⟩, z0, z1⟩ := HR1.out.cells
    unfold agg
    simp only []
    go_wp2_with fail
    exact bodyPost_ret (v := .agg #[Sv ct.s, .int .i64 ct.pos, .int .i64 ct.en, .int .i64 ct.code]) (by simp only [results, Try.results77]; go_simp) rfl
      (RK.mk (c' := ct) (show RdF (takeR 8) c ct from HF.out) (by ((repeat (first | (with_reducible refine Below.drew ?_) | (with_reducible refine Below.setCell ?_ (by simp <;> omega) _) | (with_reducible refine Below.alloc ?_ (by simp <;> omega) _))); exact (HR1).out.bel)))
  · clear hk hk1
    unfold agg
    go_enter Try.func77, Try.ntmps77
    go_wp2_with fail
    refine (ris_any 8 _ (by decide) (by decide)).mono ?_; rintro e w1 ⟨rfl, rfl⟩
    rw [show isK 8 = true by decide]
    go_wp2_with fail
    refine (rholds_any 8 _).mono ?_; rintro e w1 ⟨rfl, rfl⟩
    rw [show holdsB 8 = false by decide]
    go_wp2_with fail
    refine (rtextb_any c _ hf).mono ?_; rintro e w2 ⟨cv, rfl, hv2, hw2⟩
    have HF := hid hv2
    clear hv2
    have HR1 := hid (HR0.out.ext hw2)
    clear hw2
    clear p0 p1 p2 p3 f0 f1 f2 f3 r0 r1 r2 r3 g0 g1 g2 g3 z0 z1
    obtain ⟨⟨p0, p1, p2, p3, f0, f1, f2, f3⟩, ⟨r0, r1, r2, r3, g0, g1, g2, g3⟩, z0, z1⟩ := HR1.out.cells
    unfold agg
    simp only []
    go_wp2_with fail
    exact bodyPost_ret (v := .agg #[Sv cv.s, .int .i64 cv.pos, .int .i64 cv.en, .int .i64 cv.code]) (by simp only [results, Try.results77]; go_simp) rfl
      (RK.mk (c' := cv) (show RdF textR c cv from HF.out) (by ((repeat (first | (with_reducible refine Below.drew ?_) | (with_reducible refine Below.setCell ?_ (by simp <;> omega) _) | (with_reducible refine Below.alloc ?_ (by simp <;> omega) _))); exact (HR1).out.bel)))
set_option maxRecDepth 100000 in
set_option maxHeartbeats 4000000 in
theorem rvalue_deep (c : Cu) (kind deep : Int) (w : World) (hf : c.fit) (k0 : 9 ≤ kind) (k1 : kind ≤ 12) (hd : 32 ≤ deep) :
    Calls Try.prog 77 #[agg c, .int .u8 kind, .int .i64 deep] w fun e w' => RK (fun _ => (33, 0)) c w e w' := by
  have R0 := R2.new w c
  have HR0 := hid R0
  obtain ⟨⟨p0, p1, p2, p3, f0, f1, f2, f3⟩, ⟨r0, r1, r2, r3, g0, g1, g2, g3⟩, z0, z1⟩ := R0.cells
  clear R0
  have HI := hid (show isK kind = true from decide_eq_true ⟨by omega, by omega⟩)
  have HH := hid (show holdsB kind = true from decide_eq_true ⟨k0, k1⟩)
  unfold agg
  go_enter Try.func77, Try.ntmps77
  go_wp2_with fail
  refine (ris_any kind _ (by omega) (by omega)).mono ?_; rintro e w1 ⟨rfl, rfl⟩
  rw [HI.out]
  go_wp2_with fail
  refine (rholds_any kind _).mono ?_; rintro e w1 ⟨rfl, rfl⟩
  rw [HH.out]
  go_wp2_with fail
  refine (rfail_any c 33 _).mono ?_; rintro e w2 ⟨rfl, hw2⟩
  generalize hcf : c.fail 33 = cf
  have HF := hid (show RdF (fun _ => (33, 0)) c cf by rw [← hcf]; exact RdF.fail 33 (by decide) hf)
  clear hcf
  have HR1 := hid (HR0.out.ext hw2)
  clear hw2
  clear p0 p1 p2 p3 f0 f1 f2 f3 r0 r1 r2 r3 g0 g1 g2 g3 z0 z1
  obtain ⟨⟨p0, p1, p2, p3, f0, f1, f2, f3⟩, ⟨r0, r1, r2, r3, g0, g1, g2, g3⟩, z0, z1⟩ := HR1.out.cells
  unfold agg
  simp only []
  go_wp2_with fail
  exact bodyPost_ret (v := .agg #[Sv cf.s, .int .i64 cf.pos, .int .i64 cf.en, .int .i64 cf.code]) (by simp only [results, Try.results77]; go_simp) rfl
    (RK.mk (c' := cf) HF.out (by ((repeat (first | (with_reducible refine Below.drew ?_) | (with_reducible refine Below.setCell ?_ (by simp <;> omega) _) | (with_reducible refine Below.alloc ?_ (by simp <;> omega) _))); exact (HR1).out.bel)))
set_option maxRecDepth 100000 in
set_option maxHeartbeats 4000000 in
theorem rvalue_held {n : Nat} (hv : RValOk n) (c : Cu) (kind deep : Int) (w : World) (hf : c.fit) (k0 : 9 ≤ kind) (k1 : kind ≤ 12) (d0 : 0 ≤ deep) (hd : deep < 32) (hn : (32 - (deep + 1)).toNat = n) :
    Calls Try.prog 77 #[agg c, .int .u8 kind, .int .i64 deep] w fun e w' => RK (heldR (skipV n) kind) c w e w' := by
  have R0 := R2.new w c
  have HR0 := hid R0
  obtain ⟨⟨p0, p1, p2, p3, f0, f1, f2, f3⟩, ⟨r0, r1, r2, r3, g0, g1, g2, g3⟩, z0, z1⟩ := R0.cells
  clear R0
  have HV := hid hv
  have HN := hid hn
  have hwd : IntKind.i64.wrap (deep + 1) = deep + 1 := by rw [IntKind.wrap_i64]; omega
  clear hv hn
  obtain rfl | rfl | rfl | rfl : kind = 9 ∨ kind = 10 ∨ kind = 11 ∨ kind = 12 := by omega
  · unfold agg
    go_enter Try.func77, Try.ntmps77
    go_wp2_with fail
    refine (ris_any 9 _ (by decide) (by decide)).mono ?_; rintro e w1 ⟨rfl, rfl⟩
    rw [show isK 9 = true by decide]
    go_wp2_with fail
    refine (rholds_any 9 _).mono ?_; rintro e w1 ⟨rfl, rfl⟩
    rw [show holdsB 9 = true by decide]
    go_wp2_with fail
    refine (rlisthead_any c _ hf).mono ?_; rintro e w2 ⟨c1, m, kd, rfl, hr2, hvb, hvg, hw2⟩
    have hL : ∃ M : Nat, m = (M : Int) ∧ m ≤ 2147483647 ∧ 0 ≤ kd ∧ kd ≤ 255 ∧ Left (listsR (skipV n)) (itemsR (twoR (skipV n) kd 0) M) c c1 := by
      by_cases h0 : c.code = 0
      · obtain ⟨e1, e2⟩ := hvg h0
        obtain ⟨b0, b1, b2, b3⟩ := listR_bd c.ahead
        refine ⟨m.toNat, by omega, by omega, by omega, by omega, hr2.fit, fun c' h' => ?_⟩
        have hs : RdF (fun a => ((listR a).1, (listR a).2.1)) c c1 := hr2
        exact (hs.seq h').congr (by simp only [listsR, e1, e2, twoR, if_true])
      · obtain ⟨e1, e2⟩ := hvb h0
        rw [hr2.bad h0]
        exact ⟨0, by omega, by omega, by omega, by omega, left_zero hf h0⟩
    obtain ⟨M, rfl, hm, q0, q1, hL⟩ := hL
    have HL := hid hL
    have HR1 := hid (HR0.out.ext hw2)
    have HR2 := hid (HR1.out.ext (ext_alloc w2 (.cells #[Sv c1.s, .int .i64 c1.pos, .int .i64 c1.en, .int .i64 c1.code] 78)))
    clear hw2 hr2 hvb hvg hL
    clear p0 p1 p2 p3 f0 f1 f2 f3 r0 r1 r2 r3 g0 g1 g2 g3 z0 z1
    obtain ⟨⟨p0, p1, p2, p3, f0, f1, f2, f3⟩, ⟨r0, r1, r2, r3, g0, g1, g2, g3⟩, z0, z1⟩ := HR1.out.cells
    unfold agg
    go_wp2_with fail
    refine (rvalues_of (rinner_of HV.out) c1 M kd 0 (deep + 1) _ HL.out.1 (by omega) q0 q1 (by decide) (by decide) (by omega) (by omega) HN.out).mono ?_; rintro e w3 ⟨c3, rfl, hr3, hw3⟩
    have HF := hid (HL.out.2 c3 hr3)
    clear hr3
    have HR3 := hid (HR2.out.ext hw3)
    clear hw3
    clear p0 p1 p2 p3 f0 f1 f2 f3 r0 r1 r2 r3 g0 g1 g2 g3 z0 z1
    obtain ⟨⟨p0, p1, p2, p3, f0, f1, f2, f3⟩, ⟨r0, r1, r2, r3, g0, g1, g2, g3⟩, z0, z1⟩ := HR3.out.cells
    unfold agg
    simp only []
    go_wp2_with fail
    exact bodyPost_ret (v := .agg #[Sv c3.s, .int .i64 c3.pos, .int .i64 c3.en, .int .i64 c3.code]) (by simp only [results, Try.results77]; go_simp) rfl
      (RK.mk (c' := c3) (show RdF (listsR (skipV n)) c c3 from HF.out) (by ((repeat (first | (with_reducible refine Below.drew ?_) | (with_reducible refine Below.setCell ?_ (by simp <;> omega) _) | (with_reducible refine Below.alloc ?_ (by simp <;> omega) _))); exact (HR3).out.bel)))
  · unfold agg
    go_enter Try.func77, Try.ntmps77
    go_wp2_with fail
    refine (ris_any 10 _ (by decide) (by decide)).mono ?_; rintro e w1 ⟨rfl, rfl⟩
    rw [show isK 10 = true by decide]
    go_wp2_with fail
    refine (rholds_any 10 _).mono ?_; rintro e w1 ⟨rfl, rfl⟩
    rw [show holdsB 10 = true by decide]
    go_wp2_with fail
    refine (rlisthead_any c _ hf).mono ?_; rintro e w2 ⟨c1, m, kd, rfl, hr2, hvb, hvg, hw2⟩
    have hL : ∃ M : Nat, m = (M : Int) ∧ m ≤ 2147483647 ∧ 0 ≤ kd ∧ kd ≤ 255 ∧ Left (listsR (skipV n)) (itemsR (twoR (skipV n) kd 0) M) c c1 := by
      by_cases h0 : c.code = 0
      · obtain ⟨e1, e2⟩ := hvg h0
        obtain ⟨b0, b1, b2, b3⟩ := listR_bd c.ahead
        refine ⟨m.toNat, by omega, by omega, by omega, by omega, hr2.fit, fun c' h' => ?_⟩
        have hs : RdF (fun a => ((listR a).1, (listR a).2.1)) c c1 := hr2
        exact (hs.seq h').congr (by simp only [listsR, e1, e2, twoR, if_true])
      · obtain ⟨e1, e2⟩ := hvb h0
        rw [hr2.bad h0]
        exact ⟨0, by omega, by omega, by omega, by omega, left_zero hf h0⟩
    obtain ⟨M, rfl, hm, q0, q1, hL⟩ := hL
    have HL := hid hL
    have HR1 := hid (HR0.out.ext hw2)
    have HR2 := hid (HR1.out.ext (ext_alloc w2 (.cells #[Sv c1.s, .int .i64 c1.pos, .int .i64 c1.en, .int .i64 c1.code] 78)))
    clear hw2 hr2 hvb hvg hL
    clear p0 p1 p2 p3 f0 f1 f2 f3 r0 r1 r2 r3 g0 g1 g2 g3 z0 z1
    obtain ⟨⟨p0, p1, p2, p3, f0, f1, f2, f3⟩, ⟨r0, r1, r2, r3, g0, g1, g2, g3⟩, z0, z1⟩ := HR1.out.cells
    unfold agg
    go_wp2_with fail
    refine (rvalues_of (rinner_of HV.out) c1 M kd 0 (deep + 1) _ HL.out.1 (by omega) q0 q1 (by decide) (by decide) (by omega) (by omega) HN.out).mono ?_; rintro e w3 ⟨c3, rfl, hr3, hw3⟩
    have HF := hid (HL.out.2 c3 hr3)
    clear hr3
    have HR3 := hid (HR2.out.ext hw3)
    clear hw3
    clear p0 p1 p2 p3 f0 f1 f2 f3 r0 r1 r2 r3 g0 g1 g2 g3 z0 z1
    obtain ⟨⟨p0, p1, p2, p3, f0, f1, f2, f3⟩, ⟨r0, r1, r2, r3, g0, g1, g2, g3⟩, z0, z1⟩ := HR3.out.cells
    unfold agg
    simp only []
    go_wp2_with fail
    exact bodyPost_ret (v := .agg #[Sv c3.s, .int .i64 c3.pos, .int .i64 c3.en, .int .i64 c3.code]) (by simp only [results, Try.results77]; go_simp) rfl
      (RK.mk (c' := c3) (show RdF (listsR (skipV n)) c c3 from HF.out) (by ((repeat (first | (with_reducible refine Below.drew ?_) | (with_reducible refine Below.setCell ?_ (by simp <;> omega) _) | (with_reducible refine Below.alloc ?_ (by simp <;> omega) _))); exact (HR3).out.bel)))
  · unfold agg
    go_enter Try.func77, Try.ntmps77
    go_wp2_with fail
    refine (ris_any 11 _ (by decide) (by decide)).mono ?_; rintro e w1 ⟨rfl, rfl⟩
    rw [show isK 11 = true by decide]
    go_wp2_with fail
    refine (rholds_any 11 _).mono ?_; rintro e w1 ⟨rfl, rfl⟩
    rw [show holdsB 11 = true by decide]
    go_wp2_with fail
    refine (rmaphead_any c _ hf).mono ?_; rintro e w2 ⟨c1, m, kd, vl, rfl, hr2, hvb, hvg, hw2⟩
    have hL : ∃ M : Nat, m = (M : Int) ∧ m ≤ 2147483647 ∧ 0 ≤ kd ∧ kd ≤ 255 ∧ 0 ≤ vl ∧ vl ≤ 255 ∧ Left (mapsR (skipV n)) (itemsR (twoR (skipV n) kd vl) M) c c1 := by
      by_cases h0 : c.code = 0
      · obtain ⟨e1, e2, e3⟩ := hvg h0
        obtain ⟨b0, b1, b2, b3, b4, b5⟩ := mapR_bd c.ahead
        refine ⟨m.toNat, by omega, by omega, by omega, by omega, by omega, by omega, hr2.fit, fun c' h' => ?_⟩
        have hs : RdF (fun a => ((mapR a).1, (mapR a).2.1)) c c1 := hr2
        refine (hs.seq h').congr ?_
        by_cases hm0 : (mapR c.ahead).2.2.1 = 0
        · simp only [mapsR, e1, hm0, Int.toNat_zero]
          rfl
        · have hvl := mapR_val c.ahead hm0
          simp only [mapsR, e1, e2, e3, twoR, if_neg hvl]
      · obtain ⟨e1, e2, e3⟩ := hvb h0
        rw [hr2.bad h0]
        exact ⟨0, by omega, by omega, by omega, by omega, by omega, by omega, left_zero hf h0⟩
    obtain ⟨M, rfl, hm, q0, q1, s0, s1, hL⟩ := hL
    have HL := hid hL
    have HR1 := hid (HR0.out.ext hw2)
    have HR2 := hid (HR1.out.ext (ext_alloc w2 (.cells #[Sv c1.s, .int .i64 c1.pos, .int .i64 c1.en, .int .i64 c1.code] 78)))
    clear hw2 hr2 hvb hvg hL
    clear p0 p1 p2 p3 f0 f1 f2 f3 r0 r1 r2 r3 g0 g1 g2 g3 z0 z1
    obtain ⟨⟨p0, p1, p2, p3, f0, f1, f2, f3⟩, ⟨r0, r1, r2, r3, g0, g1, g2, g3⟩, z0, z1⟩ := HR1.out.cells
    unfold agg
    go_wp2_with fail
    refine (rvalues_of (rinner_of HV.out) c1 M kd vl (deep + 1) _ HL.out.1 (by omega) q0 q1 s0 s1 (by omega) (by omega) HN.out).mono ?_; rintro e w3 ⟨c3, rfl, hr3, hw3⟩
    have HF := hid (HL.out.2 c3 hr3)
    clear hr3
    have HR3 := hid (HR2.out.ext hw3)
    clear hw3
    clear p0 p1 p2 p3 f0 f1 f2 f3 r0 r1 r2 r3 g0 g1 g2 g3 z0 z1
    obtain ⟨⟨p0, p1, p2, p3, f0, f1, f2, f3⟩, ⟨r0, r1, r2, r3, g0, g1, g2, g3⟩, z0, z1⟩ := HR3.out.cells
    unfold agg
    simp only []
    go_wp2_with fail
    exact bodyPost_ret (v := .agg #[Sv c3.s, .int .i64 c3.pos, .int .i64 c3.en, .int .i64 c3.code]) (by simp only [results, Try.results77]; go_simp) rfl
      (RK.mk (c' := c3) (show RdF (mapsR (skipV n)) c c3 from HF.out) (by ((repeat (first | (with_reducible refine Below.drew ?_) | (with_reducible refine Below.setCell ?_ (by simp <;> omega) _) | (with_reducible refine Below.alloc ?_ (by simp <;> omega) _))); exact (HR3).out.bel)))
  · unfold agg
    go_enter Try.func77, Try.ntmps77
    go_wp2_with fail
    refine (ris_any 12 _ (by decide) (by decide)).mono ?_; rintro e w1 ⟨rfl, rfl⟩
    rw [show isK 12 = true by decide]
    go_wp2_with fail
    refine (rholds_any 12 _).mono ?_; rintro e w1 ⟨rfl, rfl⟩
    rw [show holdsB 12 = true by decide]
    go_wp2_with fail
    refine (rfields_of HV.out c (deep + 1) _ hf (by omega) (by omega) HN.out).mono ?_; rintro e w3 ⟨c3, rfl, hr3, hw3⟩
    have HF := hid hr3
    clear hr3
    have HR3 := hid (HR0.out.ext hw3)
    clear hw3
    clear p0 p1 p2 p3 f0 f1 f2 f3 r0 r1 r2 r3 g0 g1 g2 g3 z0 z1
    obtain ⟨⟨p0, p1, p2, p3, f0, f1, f2, f3⟩, ⟨r0, r1, r2, r3, g0, g1, g2, g3⟩, z0, z1⟩ := HR3.out.cells
    unfold agg
    simp only []
    go_wp2_with fail
    exact bodyPost_ret (v := .agg #[Sv c3.s, .int .i64 c3.pos, .int .i64 c3.en, .int .i64 c3.code]) (by simp only [results, Try.results77]; go_simp) rfl
      (RK.mk (c' := c3) (show RdF (structR (skipV n)) c c3 from HF.out) (by ((repeat (first | (with_reducible refine Below.drew ?_) | (with_reducible refine Below.setCell ?_ (by simp <;> omega) _) | (with_reducible refine Below.alloc ?_ (by simp <;> omega) _))); exact (HR3).out.bel)))
theorem rvalue_any : ∀ n, RValOk n := by
  intro n
  induction n with
  | zero =>
    intro c kind deep w hf k0 k1 d0 d1 hn
    have hd : 32 ≤ deep := by omega
    by_cases hk : 9 ≤ kind ∧ kind ≤ 12
    · have e : skipV 0 kind = fun _ => (33, 0) := flat_held _ kind hk.1 hk.2
      rw [e]
      exact rvalue_deep c kind deep w hf hk.1 hk.2 hd
    · exact rvalue_low _ c kind deep w hf k0 k1 hk
  | succ n ih =>
    intro c kind deep w hf k0 k1 d0 d1 hn
    by_cases hk : 9 ≤ kind ∧ kind ≤ 12
    · have e : skipV (n + 1) kind = heldR (skipV n) kind := flat_held _ kind hk.1 hk.2
      rw [e]
      exact rvalue_held ih c kind deep w hf hk.1 hk.2 d0 (by omega) (by omega)
    · exact rvalue_low _ c kind deep w hf k0 k1 hk
theorem rinner_any (n : Nat) : RInOk n := rinner_of (rvalue_any n)
end Go.Proofs.Ytdjbgojdkaipfaa
