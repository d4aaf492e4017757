/-
  Walks of the reference of package ptag.
-/
import Derived.Test.YtdjbgojdkaipfaaDoorPtag
namespace Go.Proofs.YtdjbgojdkaipfaaDoor
open Go.RowKit

set_option maxRecDepth 100000 in
theorem rmay_any (n wi : Int) (w : World) :
    Calls Tryd.prog 15 #[.int .i64 n, .int .i64 wi] w fun e w' => e = .returned (.bool (mayT n wi)) ∧ w = w' := by
  by_cases h1 : n < 1
  · have HM := hid (show mayT n wi = false by simp [mayT]; omega)
    go_enter Tryd.func15, Tryd.ntmps15
    go_wp2
    go_ret
    exact ⟨by rw [HM.out]; rfl, rfl⟩
  by_cases h2 : 536870911 < n
  · have HM := hid (show mayT n wi = false by simp [mayT]; omega)
    go_enter Tryd.func15, Tryd.ntmps15
    go_wp2
    go_ret
    exact ⟨by rw [HM.out]; rfl, rfl⟩
  have hd : decide (1 ≤ n ∧ n ≤ 536870911) = true := decide_eq_true ⟨by omega, by omega⟩
  cases e0 : (wi == 0) with
  | true =>
    have HM := hid (show mayT n wi = true by simp [mayT, hd, e0])
    clear hd
    go_enter Tryd.func15, Tryd.ntmps15
    go_wp2
    go_ret
    exact ⟨by rw [HM.out]; rfl, rfl⟩
  | false =>
    cases e1 : (wi == 1) with
    | true =>
      have HM := hid (show mayT n wi = true by simp [mayT, hd, e1])
      clear hd
      go_enter Tryd.func15, Tryd.ntmps15
      go_wp2
      go_ret
      exact ⟨by rw [HM.out]; rfl, rfl⟩
    | false =>
      cases e2 : (wi == 2) with
      | true =>
        have HM := hid (show mayT n wi = true by simp [mayT, hd, e2])
        clear hd
        go_enter Tryd.func15, Tryd.ntmps15
        go_wp2
        go_ret
        exact ⟨by rw [HM.out]; rfl, rfl⟩
      | false =>
        have HM := hid (show mayT n wi = (wi == 5) by simp [mayT, hd, e0, e1, e2])
        clear hd
        go_enter Tryd.func15, Tryd.ntmps15
        go_wp2
        go_ret
        exact ⟨by rw [HM.out]; rfl, rfl⟩
def RLPost (R : Int × Nat × Int × Int) (c : Cu) (w : World) (e : Ending) (w' : World) : Prop :=
  ∃ c' id kind, e = .returned (.tuple #[agg c', .int .i64 id, .int .i64 kind]) ∧ Rd c c' R.1 R.2.1 ∧ (c.code ≠ 0 → id = 0 ∧ kind = 0) ∧
    (c.code = 0 → id = R.2.2.1 ∧ kind = R.2.2.2) ∧ Below w.heap.size w w'
theorem RLPost.mk_bad {R : Int × Nat × Int × Int} {c : Cu} {w w' : World} (h : c.code ≠ 0) (hf : c.fit) (hg : Below w.heap.size w w') : RLPost R c w (.returned (.tuple #[agg c, .int .i64 0, .int .i64 0])) w' :=
  ⟨c, 0, 0, rfl, Rd.refl_bad h hf _ _, fun _ => ⟨rfl, rfl⟩, fun h0 => absurd h0 h, hg⟩
theorem RLPost.mk_ok {R : Int × Nat × Int × Int} {c c' : Cu} {w w' : World} {K : Int} {n : Nat} {id kind : Int} (h : c.code = 0) (hr : R = (K, n, id, kind)) (hs : c'.s = c.s) (he : c'.en = c.en) (hf : c'.fit) (hk : c'.code = K)
    (hp : K = 0 → c' = { c with pos := c.pos + n }) (hg : Below w.heap.size w w') : RLPost R c w (.returned (.tuple #[agg c', .int .i64 id, .int .i64 kind])) w' :=
  ⟨c', id, kind, rfl, ⟨hs, he, hf, fun h0 => absurd h h0, fun _ => ⟨by rw [hr]; exact hk, fun h0 => by rw [hr] at h0 ⊢; exact hp h0⟩⟩, fun h0 => absurd h h0, fun _ => by rw [hr]; exact ⟨rfl, rfl⟩, hg⟩
/-- Two cursors by value, in the first two blocks that a function of the document's has. -/
structure R2 (w wr : World) (c d : Cu) : Prop where
  a : Blk wr w.heap.size 27 #[Sv c.s, .int .i64 c.pos, .int .i64 c.en, .int .i64 c.code]
  z : Blk wr (w.heap.size + 1) 27 #[Sv d.s, .int .i64 d.pos, .int .i64 d.en, .int .i64 d.code]
  bel : Below w.heap.size w wr
section
variable {w wr w' : World} {c d : Cu}
theorem R2.ext (h : R2 w wr c d) (k : Below wr.heap.size wr w') : R2 w w' c d :=
  ⟨Blk.below h.a k (Blk.lt h.a), Blk.below h.z k (Blk.lt h.z), h.bel.trans (k.mono h.bel.size)⟩
theorem R2.put (h : R2 w wr c d) (c' : Cu) :
    R2 w ((((wr.setCell ⟨w.heap.size, 0, none⟩ (Sv c'.s)).setCell ⟨w.heap.size, 1, none⟩ (.int .i64 c'.pos)).setCell ⟨w.heap.size, 2, none⟩ (.int .i64 c'.en)).setCell ⟨w.heap.size, 3, none⟩ (.int .i64 c'.code)) c' d :=
  ⟨blk_put4 h.a _ _ _ _, Blk.far (Blk.far (Blk.far (Blk.far h.z (by simp) _) (by simp) _) (by simp) _) (by simp) _,
   (((h.bel.setCell (p := ⟨w.heap.size, 0, none⟩) (Nat.le_refl _) _).setCell (p := ⟨w.heap.size, 1, none⟩) (Nat.le_refl _) _).setCell (p := ⟨w.heap.size, 2, none⟩) (Nat.le_refl _) _).setCell (p := ⟨w.heap.size, 3, none⟩) (Nat.le_refl _) _⟩
theorem R2.cells (h : R2 w wr c d) :
    (wr.cell? ⟨w.heap.size, 0, none⟩ = some (Sv c.s) ∧ wr.cell? ⟨w.heap.size, 1, none⟩ = some (.int .i64 c.pos) ∧ wr.cell? ⟨w.heap.size, 2, none⟩ = some (.int .i64 c.en) ∧ wr.cell? ⟨w.heap.size, 3, none⟩ = some (.int .i64 c.code) ∧
      wr.frozen? ⟨w.heap.size, 0, none⟩ = false ∧ wr.frozen? ⟨w.heap.size, 1, none⟩ = false ∧ wr.frozen? ⟨w.heap.size, 2, none⟩ = false ∧ wr.frozen? ⟨w.heap.size, 3, none⟩ = false) ∧
    (wr.cell? ⟨w.heap.size + 1, 0, none⟩ = some (Sv d.s) ∧ wr.cell? ⟨w.heap.size + 1, 1, none⟩ = some (.int .i64 d.pos) ∧ wr.cell? ⟨w.heap.size + 1, 2, none⟩ = some (.int .i64 d.en) ∧ wr.cell? ⟨w.heap.size + 1, 3, none⟩ = some (.int .i64 d.code) ∧
      wr.frozen? ⟨w.heap.size + 1, 0, none⟩ = false ∧ wr.frozen? ⟨w.heap.size + 1, 1, none⟩ = false ∧ wr.frozen? ⟨w.heap.size + 1, 2, none⟩ = false ∧ wr.frozen? ⟨w.heap.size + 1, 3, none⟩ = false) ∧
    w.heap.size < wr.heap.size ∧ w.heap.size + 1 < wr.heap.size :=
  ⟨blk4 h.a, blk4 h.z, Blk.lt h.a, Blk.lt h.z⟩
end
theorem R2.new (w : World) (c : Cu) : R2 w ((w.alloc (.cells #[Sv c.s, .int .i64 c.pos, .int .i64 c.en, .int .i64 c.code] 27)).alloc (.cells #[Sv [], .int .i64 0, .int .i64 0, .int .i64 0] 27)) c ⟨[], 0, 0, 0⟩ := by
  obtain ⟨hA, hB, _, _, hbw⟩ := box2 (Below.refl ((w.alloc (.cells #[Sv c.s, .int .i64 c.pos, .int .i64 c.en, .int .i64 c.code] 27)).alloc (.cells #[Sv [], .int .i64 0, .int .i64 0, .int .i64 0] 27)).heap.size _)
  exact ⟨hA, hB, hbw⟩
set_option maxRecDepth 100000 in
set_option maxHeartbeats 4000000 in
theorem rtag_any (c : Cu) (w : World) (hf : c.fit) :
    Calls Tryd.prog 10 #[agg c] w fun e w' => RLPost (tagR c.ahead) c w e w' := by
  have R0 := R2.new w c
  by_cases hc0 : c.code = 0
  case neg =>
    have hne : (c.code != 0) = true := by simpa using hc0
    have HC := hid hc0
    clear hc0
    unfold agg
    go_enter Tryd.func10, Tryd.ntmps10
    go_wp2_with fail
    refine (rvread_any c _ hf).mono ?_; rintro e w1 ⟨c2, u, rfl, hv3, hw1⟩
    obtain ⟨rfl, rfl⟩ := hv3.bad HC.out
    have R1 := R0.ext hw1
    obtain ⟨⟨p0, p1, p2, p3, f0, f1, f2, f3⟩, ⟨r0, r1, r2, r3, g0, g1, g2, g3⟩, z0, z1⟩ := R1.cells
    have HR1 := hid R1
    clear hv3 R0 R1 hw1
    unfold agg
    go_wp2_with fail
    exact bodyPost_ret (v := .tuple #[.agg #[Sv c2.s, .int .i64 c2.pos, .int .i64 c2.en, .int .i64 c2.code], .int .i64 0, .int .i64 0]) (by simp only [results, Tryd.results10]; go_simp) rfl
      (RLPost.mk_bad HC.out hf (by ((repeat (first | (with_reducible refine Below.drew ?_) | (with_reducible refine Below.setCell ?_ (by simp <;> omega) _) | (with_reducible refine Below.alloc ?_ (by simp <;> omega) _))); exact (HR1).out.bel)))
  by_cases hv : vcode c.ahead = 0
  case neg =>
    have HR := hid (show tagR c.ahead = (vcode c.ahead, 0, 0, 0) by rw [tagR, if_neg hv])
    have HV := hid hv
    have HC := hid hc0
    clear hv hc0
    unfold agg
    go_enter Tryd.func10, Tryd.ntmps10
    go_wp2_with fail
    refine (rvread_any c _ hf).mono ?_; rintro e w1 ⟨c2, u, rfl, hv3, hw1⟩
    obtain ⟨e1, e2, e3⟩ := hv3.good HC.out
    have hf3 := hv3.fit
    have hne : (c2.code != 0) = true := by rw [e1]; simpa using HV.out
    have E1 := hid e1
    have HS := hid hv3.s
    have HE := hid hv3.en
    have huz : u = 0 := by rw [e2, vnum, if_neg HV.out]
    subst huz
    clear e1 e2 e3 hv3
    have R1 := R0.ext hw1
    obtain ⟨⟨p0, p1, p2, p3, f0, f1, f2, f3⟩, ⟨r0, r1, r2, r3, g0, g1, g2, g3⟩, z0, z1⟩ := R1.cells
    have HR1 := hid R1
    clear R0 R1 hw1
    unfold agg
    go_wp2_with fail
    exact bodyPost_ret (v := .tuple #[.agg #[Sv c2.s, .int .i64 c2.pos, .int .i64 c2.en, .int .i64 c2.code], .int .i64 0, .int .i64 0]) (by simp only [results, Tryd.results10]; go_simp) rfl
      (RLPost.mk_ok (c' := c2) HC.out HR.out HS.out HE.out hf3 E1.out (fun h => absurd h HV.out) (by ((repeat (first | (with_reducible refine Below.drew ?_) | (with_reducible refine Below.setCell ?_ (by simp <;> omega) _) | (with_reducible refine Below.alloc ?_ (by simp <;> omega) _))); exact (HR1).out.bel)))
  obtain ⟨u0, u1⟩ := vnum_bd c.ahead
  have HV := hid hv
  have HC := hid hc0
  have HR0 := hid (show ∀ r, (tagR c.ahead = r ↔ (if mayT (vnum c.ahead / 8) (vnum c.ahead % 8) = true then (0, vlen 10 c.ahead, vnum c.ahead / 8, vnum c.ahead % 8) else (14, 0, 0, 0)) = r) from fun r => by rw [tagR, if_pos hv])
  generalize hU : vnum c.ahead = U at u0 u1 HR0
  have HU := hid hU
  have hcode : (c.code != 0) = false := by rw [hc0]; rfl
  have hcode2 : (c.code == 0) = true := by rw [hc0]; rfl
  have q8 : U.tdiv 8 = U / 8 := Int.tdiv_eq_ediv_of_nonneg u0
  have r8 : U.tmod 8 = U % 8 := Int.tmod_eq_emod_of_nonneg u0
  have qw : IntKind.i64.wrap (U / 8) = U / 8 := by rw [IntKind.wrap_i64]; omega
  have rw8 : IntKind.i64.wrap (U % 8) = U % 8 := by rw [IntKind.wrap_i64]; omega
  have qu : IntKind.u64.wrap (U / 8) = U / 8 := by rw [IntKind.wrap_u64]; omega
  have ru : IntKind.u64.wrap (U % 8) = U % 8 := by rw [IntKind.wrap_u64]; omega
  clear hv hc0 hU
  by_cases hm : mayT (U / 8) (U % 8) = true
  · have HR := hid ((HR0.out _).2 (if_pos hm))
    have hle : U / 8 ≤ 536870911 := by simp [mayT] at hm; omega
    have HM := hid hm
    clear HR0 hm
    unfold agg
    go_enter Tryd.func10, Tryd.ntmps10
    go_wp2_with fail
    refine (rvread_any c _ hf).mono ?_; rintro e w1 ⟨c2, u, rfl, hv3, hw1⟩
    obtain ⟨e1, e2, e3⟩ := hv3.good HC.out
    have hf3 := hv3.fit
    obtain rfl := e3 HV.out
    rw [e2, HU.out]
    clear e1 e2 e3 hv3
    have R1 := R0.ext hw1
    obtain ⟨⟨p0, p1, p2, p3, f0, f1, f2, f3⟩, ⟨r0, r1, r2, r3, g0, g1, g2, g3⟩, z0, z1⟩ := R1.cells
    have HR1 := hid R1
    clear R0 R1 hw1
    unfold agg
    simp only []
    go_wp2_with fail
    refine (rmay_any (U / 8) (U % 8) _).mono ?_; rintro e w2 ⟨rfl, rfl⟩
    rw [HM.out]
    go_wp2_with fail
    exact bodyPost_ret (v := .tuple #[.agg #[Sv c.s, .int .i64 (c.pos + vlen 10 c.ahead : Nat), .int .i64 c.en, .int .i64 c.code], .int .i64 (U / 8), .int .i64 (U % 8)]) (by simp only [results, Tryd.results10]; go_simp) rfl
      (RLPost.mk_ok (c' := { c with pos := c.pos + vlen 10 c.ahead }) HC.out HR.out rfl rfl hf3 HC.out (fun _ => rfl) (by ((repeat (first | (with_reducible refine Below.drew ?_) | (with_reducible refine Below.setCell ?_ (by simp <;> omega) _) | (with_reducible refine Below.alloc ?_ (by simp <;> omega) _))); exact (HR1).out.bel)))
  · have HR := hid ((HR0.out _).2 (if_neg hm))
    have HM := hid (show mayT (U / 8) (U % 8) = false by simpa using hm)
    clear HR0 hm
    unfold agg
    by_cases hle : U / 8 ≤ 536870911
    · go_enter Tryd.func10, Tryd.ntmps10
      go_wp2_with fail
      refine (rvread_any c _ hf).mono ?_; rintro e w1 ⟨c2, u, rfl, hv3, hw1⟩
      obtain ⟨e1, e2, e3⟩ := hv3.good HC.out
      have hf3 := hv3.fit
      obtain rfl := e3 HV.out
      rw [e2, HU.out]
      clear e1 e2 e3 hv3
      have R1 := R0.ext hw1
      obtain ⟨⟨p0, p1, p2, p3, f0, f1, f2, f3⟩, ⟨r0, r1, r2, r3, g0, g1, g2, g3⟩, z0, z1⟩ := R1.cells
      have HR1 := hid (R1.put { c with pos := c.pos + vlen 10 c.ahead })
      clear R0 R1 hw1
      unfold agg
      simp only []
      go_wp2_with fail
      refine (rmay_any (U / 8) (U % 8) _).mono ?_; rintro e w2 ⟨rfl, rfl⟩
      rw [HM.out]
      go_wp2_with fail
      refine (rfail_any { c with pos := c.pos + vlen 10 c.ahead } 14 _).mono ?_; rintro e w2 ⟨rfl, hw2⟩
      rw [show ({ c with pos := c.pos + vlen 10 c.ahead } : Cu).fail 14 = { c with pos := c.pos + vlen 10 c.ahead, code := 14 } by simp [Cu.fail, HC.out]]
      have R2 := HR1.out.ext hw2
      obtain ⟨⟨p0, p1, p2, p3, f0, f1, f2, f3⟩, ⟨r0, r1, r2, r3, g0, g1, g2, g3⟩, z0, z1⟩ := R2.cells
      have HR2 := hid R2
      clear R2 hw2 HR1
      unfold agg
      simp only []
      go_wp2_with fail
      exact bodyPost_ret (v := .tuple #[.agg #[Sv c.s, .int .i64 (c.pos + vlen 10 c.ahead : Nat), .int .i64 c.en, .int .i64 14], .int .i64 0, .int .i64 0]) (by simp only [results, Tryd.results10]; go_simp) rfl
        (RLPost.mk_ok (c' := { c with pos := c.pos + vlen 10 c.ahead, code := 14 }) HC.out HR.out rfl rfl ⟨hf3.le1, hf3.le2, hf3.le3⟩ rfl (fun h => absurd h (by decide)) (by ((repeat (first | (with_reducible refine Below.drew ?_) | (with_reducible refine Below.setCell ?_ (by simp <;> omega) _) | (with_reducible refine Below.alloc ?_ (by simp <;> omega) _))); exact (HR2).out.bel)))
    · go_enter Tryd.func10, Tryd.ntmps10
      go_wp2_with fail
      refine (rvread_any c _ hf).mono ?_; rintro e w1 ⟨c2, u, rfl, hv3, hw1⟩
      obtain ⟨e1, e2, e3⟩ := hv3.good HC.out
      have hf3 := hv3.fit
      obtain rfl := e3 HV.out
      rw [e2, HU.out]
      clear e1 e2 e3 hv3
      have R1 := R0.ext hw1
      obtain ⟨⟨p0, p1, p2, p3, f0, f1, f2, f3⟩, ⟨r0, r1, r2, r3, g0, g1, g2, g3⟩, z0, z1⟩ := R1.cells
      have HR1 := hid (R1.put { c with pos := c.pos + vlen 10 c.ahead })
      clear R0 R1 hw1
      unfold agg
      simp only []
      go_wp2_with fail
      refine (rfail_any { c with pos := c.pos + vlen 10 c.ahead } 14 _).mono ?_; rintro e w2 ⟨rfl, hw2⟩
      rw [show ({ c with pos := c.pos + vlen 10 c.ahead } : Cu).fail 14 = { c with pos := c.pos + vlen 10 c.ahead, code := 14 } by simp [Cu.fail, HC.out]]
      have R2 := HR1.out.ext hw2
      obtain ⟨⟨p0, p1, p2, p3, f0, f1, f2, f3⟩, ⟨r0, r1, r2, r3, g0, g1, g2, g3⟩, z0, z1⟩ := R2.cells
      have HR2 := hid R2
      clear R2 hw2 HR1
      unfold agg
      simp only []
      go_wp2_with fail
      exact bodyPost_ret (v := .tuple #[.agg #[Sv c.s, .int .i64 (c.pos + vlen 10 c.ahead : Nat), .int .i64 c.en, .int .i64 14], .int .i64 0, .int .i64 0]) (by simp only [results, Tryd.results10]; go_simp) rfl
        (RLPost.mk_ok (c' := { c with pos := c.pos + vlen 10 c.ahead, code := 14 }) HC.out HR.out rfl rfl ⟨hf3.le1, hf3.le2, hf3.le3⟩ rfl (fun h => absurd h (by decide)) (by ((repeat (first | (with_reducible refine Below.drew ?_) | (with_reducible refine Below.setCell ?_ (by simp <;> omega) _) | (with_reducible refine Below.alloc ?_ (by simp <;> omega) _))); exact (HR2).out.bel)))
end Go.Proofs.YtdjbgojdkaipfaaDoor
