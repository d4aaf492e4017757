/-
  Walks of the reference of package chead.
-/
import Derived.Test.YtdjbgojdkaipfaaHeadC
import Derived.Test.YtdjbgojdkaipfaaWordRef
import Derived.Test.YtdjbgojdkaipfaaSt
namespace Go.Proofs.Ytdjbgojdkaipfaa
open Go.RowKit

set_option maxRecDepth 100000 in
theorem ris_any (k : Int) (w : World) (h0 : 0 ≤ k) (h1 : k ≤ 255) :
    Calls Try.prog 66 #[.int .u8 k] w fun e w' => e = .returned (.bool (isK k)) ∧ w = w' := by
  by_cases a : 1 ≤ k
  · by_cases b : k ≤ 12
    · have hk := hid (show isK k = true from decide_eq_true ⟨a, b⟩)
      go_enter Try.func66, Try.ntmps66
      go_wp2
      go_ret
      exact ⟨by rw [hk.out]; rfl, rfl⟩
    · have hk := hid (show isK k = false from decide_eq_false (fun h => b h.2))
      go_enter Try.func66, Try.ntmps66
      go_wp2
      go_ret
      exact ⟨by rw [hk.out]; rfl, rfl⟩
  · have hk := hid (show isK k = false from decide_eq_false (fun h => a h.1))
    go_enter Try.func66, Try.ntmps66
    go_wp2
    go_ret
    exact ⟨by rw [hk.out]; rfl, rfl⟩
/-- Two cursors by value, in the first two blocks that a function of the document's has. -/
structure R2 (w wr : World) (c d : Cu) : Prop where
  a : Blk wr w.heap.size 78 #[Sv c.s, .int .i64 c.pos, .int .i64 c.en, .int .i64 c.code]
  z : Blk wr (w.heap.size + 1) 78 #[Sv d.s, .int .i64 d.pos, .int .i64 d.en, .int .i64 d.code]
  bel : Below w.heap.size w wr
section
variable {w wr w' : World} {c d : Cu}
theorem R2.ext (h : R2 w wr c d) (k : Below wr.heap.size wr w') : R2 w w' c d :=
  ⟨Blk.below h.a k (Blk.lt h.a), Blk.below h.z k (Blk.lt h.z), h.bel.trans (k.mono h.bel.size)⟩
theorem R2.put (h : R2 w wr c d) (c' : Cu) :
    R2 w ((((wr.setCell ⟨w.heap.size, 0, none⟩ (Sv c'.s)).setCell ⟨w.heap.size, 1, none⟩ (.int .i64 c'.pos)).setCell ⟨w.heap.size, 2, none⟩ (.int .i64 c'.en)).setCell ⟨w.heap.size, 3, none⟩ (.int .i64 c'.code)) c' d :=
  ⟨blk_put4 h.a _ _ _ _, Blk.far (Blk.far (Blk.far (Blk.far h.z (by simp) _) (by simp) _) (by simp) _) (by simp) _,
   (((h.bel.setCell (p := ⟨w.heap.size, 0, none⟩) (Nat.le_refl _) _).setCell (p := ⟨w.heap.size, 1, none⟩) (Nat.le_refl _) _).setCell (p := ⟨w.heap.size, 2, none⟩) (Nat.le_refl _) _).setCell (p := ⟨w.heap.size, 3, none⟩) (Nat.le_refl _) _⟩
theorem R2.drewN (h : R2 w wr c d) (n : Nat) : R2 w (wr.drewN n) c d := h.ext (ext_drewN wr n)
theorem R2.cells (h : R2 w wr c d) :
    (wr.cell? ⟨w.heap.size, 0, none⟩ = some (Sv c.s) ∧ wr.cell? ⟨w.heap.size, 1, none⟩ = some (.int .i64 c.pos) ∧ wr.cell? ⟨w.heap.size, 2, none⟩ = some (.int .i64 c.en) ∧ wr.cell? ⟨w.heap.size, 3, none⟩ = some (.int .i64 c.code) ∧
      wr.frozen? ⟨w.heap.size, 0, none⟩ = false ∧ wr.frozen? ⟨w.heap.size, 1, none⟩ = false ∧ wr.frozen? ⟨w.heap.size, 2, none⟩ = false ∧ wr.frozen? ⟨w.heap.size, 3, none⟩ = false) ∧
    (wr.cell? ⟨w.heap.size + 1, 0, none⟩ = some (Sv d.s) ∧ wr.cell? ⟨w.heap.size + 1, 1, none⟩ = some (.int .i64 d.pos) ∧ wr.cell? ⟨w.heap.size + 1, 2, none⟩ = some (.int .i64 d.en) ∧ wr.cell? ⟨w.heap.size + 1, 3, none⟩ = some (.int .i64 d.code) ∧
      wr.frozen? ⟨w.heap.size + 1, 0, none⟩ = false ∧ wr.frozen? ⟨w.heap.size + 1, 1, none⟩ = false ∧ wr.frozen? ⟨w.heap.size + 1, 2, none⟩ = false ∧ wr.frozen? ⟨w.heap.size + 1, 3, none⟩ = false) ∧
    w.heap.size < wr.heap.size ∧ w.heap.size + 1 < wr.heap.size :=
  ⟨blk4 h.a, blk4 h.z, Blk.lt h.a, Blk.lt h.z⟩
end
theorem R2.new (w : World) (c : Cu) : R2 w ((w.alloc (.cells #[Sv c.s, .int .i64 c.pos, .int .i64 c.en, .int .i64 c.code] 78)).alloc (.cells #[Sv [], .int .i64 0, .int .i64 0, .int .i64 0] 78)) c ⟨[], 0, 0, 0⟩ := by
  obtain ⟨hA, hB, _, _, hbw⟩ := box2 (Below.refl ((w.alloc (.cells #[Sv c.s, .int .i64 c.pos, .int .i64 c.en, .int .i64 c.code] 78)).alloc (.cells #[Sv [], .int .i64 0, .int .i64 0, .int .i64 0] 78)).heap.size _)
  exact ⟨hA, hB, hbw⟩
def RSPost (c : Cu) (w : World) (e : Ending) (w' : World) : Prop :=
  ∃ c' u, e = .returned (.tuple #[agg c', .int .i64 u]) ∧ Rd c c' (sizeR c.ahead).1 (sizeR c.ahead).2.1 ∧ (c.code ≠ 0 → u = 0) ∧ (c.code = 0 → u = (sizeR c.ahead).2.2) ∧ Below w.heap.size w w'
theorem RSPost.mk_bad {c : Cu} {w w' : World} (h : c.code ≠ 0) (hf : c.fit) (hg : Below w.heap.size w w') : RSPost c w (.returned (.tuple #[agg c, .int .i64 0])) w' :=
  ⟨c, 0, rfl, Rd.refl_bad h hf _ _, fun _ => rfl, fun h0 => absurd h0 h, hg⟩
theorem RSPost.mk_ok {c c' : Cu} {w w' : World} {K : Int} {n : Nat} {u : Int} (h : c.code = 0) (hr : sizeR c.ahead = (K, n, u)) (hs : c'.s = c.s) (he : c'.en = c.en) (hf : c'.fit) (hk : c'.code = K)
    (hp : K = 0 → c' = { c with pos := c.pos + n }) (hg : Below w.heap.size w w') : RSPost c w (.returned (.tuple #[agg c', .int .i64 u])) w' :=
  ⟨c', u, rfl, ⟨hs, he, hf, fun h0 => absurd h h0, fun _ => ⟨by rw [hr]; exact hk, fun h0 => by rw [hr] at h0 ⊢; exact hp h0⟩⟩, fun h0 => absurd h h0, fun _ => by rw [hr], hg⟩
set_option maxRecDepth 100000 in
set_option maxHeartbeats 400000 in
theorem rsize_any (c : Cu) (w : World) (hf : c.fit) :
    Calls Try.prog 126 #[agg c] w fun e w' => RSPost c w e w' := by
  have R0 := R2.new w c
  by_cases hc0 : c.code = 0
  case neg =>
    have hne : (c.code != 0) = true := by simpa using hc0
    have hne2 : (c.code == 0) = false := by simpa using hc0
    have HC := hid hc0
    clear hc0
    unfold agg
    go_enter Try.func126, Try.ntmps126
    go_wp2_with fail
    refine (rvread_any c _ hf).mono ?_; rintro e w1 ⟨c2, u, rfl, hv3, hw1⟩
    obtain ⟨rfl, rfl⟩ := hv3.bad HC.out
    have R1 := R0.ext hw1
    obtain ⟨⟨p0, p1, p2, p3, f0, f1, f2, f3⟩, ⟨r0, r1, r2, r3, g0, g1, g2, g3⟩, z0, z1⟩ := R1.cells
    have HR1 := hid R1
    clear hv3 R0 R1 hw1
    unfold agg
    go_wp2_with fail
    exact bodyPost_ret (v := .tuple #[.agg #[Sv c2.s, .int .i64 c2.pos, .int .i64 c2.en, .int .i64 c2.code], .int .i64 0]) (by simp only [results, Try.results126]; go_simp) rfl
      (RSPost.mk_bad HC.out hf (by ((repeat (first | (with_reducible refine Below.drew ?_) | (with_reducible refine Below.setCell ?_ (by simp <;> omega) _) | (with_reducible refine Below.alloc ?_ (by simp <;> omega) _))); exact (HR1).out.bel)))
  by_cases hv : vcode c.ahead = 0
  case neg =>
    have HR := hid (show sizeR c.ahead = (vcode c.ahead, 0, 0) by rw [sizeR, if_neg hv])
    have HV := hid hv
    have HC := hid hc0
    clear hv hc0
    unfold agg
    go_enter Try.func126, Try.ntmps126
    go_wp2_with fail
    refine (rvread_any c _ hf).mono ?_; rintro e w1 ⟨c2, u, rfl, hv3, hw1⟩
    obtain ⟨e1, e2, e3⟩ := hv3.good HC.out
    have hf3 := hv3.fit
    have hne : (c2.code != 0) = true := by rw [e1]; simpa using HV.out
    have hne2 : (c2.code == 0) = false := by rw [e1]; simpa using HV.out
    have E1 := hid e1
    have HS := hid hv3.s
    have HE := hid hv3.en
    have huz : u = 0 := by rw [e2, vnum, if_neg HV.out]
    subst huz
    clear e1 e2 e3 hv3
    have R1 := R0.ext hw1
    obtain ⟨⟨p0, p1, p2, p3, f0, f1, f2, f3⟩, ⟨r0, r1, r2, r3, g0, g1, g2, g3⟩, z0, z1⟩ := R1.cells
    have HR1 := hid R1
    clear R0 R1 hw1
    unfold agg
    go_wp2_with fail
    exact bodyPost_ret (v := .tuple #[.agg #[Sv c2.s, .int .i64 c2.pos, .int .i64 c2.en, .int .i64 c2.code], .int .i64 0]) (by simp only [results, Try.results126]; go_simp) rfl
      (RSPost.mk_ok (c' := c2) HC.out HR.out HS.out HE.out hf3 E1.out (fun h => absurd h HV.out) (by ((repeat (first | (with_reducible refine Below.drew ?_) | (with_reducible refine Below.setCell ?_ (by simp <;> omega) _) | (with_reducible refine Below.alloc ?_ (by simp <;> omega) _))); exact (HR1).out.bel)))
  obtain ⟨u0, u1⟩ := vnum_bd c.ahead
  have HV := hid hv
  have HC := hid hc0
  have HR0 := hid (show ∀ r, (sizeR c.ahead = r ↔ (if vnum c.ahead ≤ 2147483647 then (0, vlen 10 c.ahead, vnum c.ahead) else (4, 0, 0)) = r) from fun r => by rw [sizeR, if_pos hv])
  generalize hU : vnum c.ahead = U at u0 u1 HR0
  have HU := hid hU
  have hcode : (c.code != 0) = false := by rw [hc0]; rfl
  have hcode2 : (c.code == 0) = true := by rw [hc0]; rfl
  clear hv hc0 hU
  by_cases hle : U ≤ 2147483647
  · have HR := hid ((HR0.out _).2 (if_pos hle))
    clear HR0
    unfold agg
    go_enter Try.func126, Try.ntmps126
    go_wp2_with fail
    refine (rvread_any c _ hf).mono ?_; rintro e w1 ⟨c2, u, rfl, hv3, hw1⟩
    obtain ⟨e1, e2, e3⟩ := hv3.good HC.out
    have hf3 := hv3.fit
    obtain rfl := e3 HV.out
    rw [e2, HU.out]
    clear e1 e2 e3 hv3
    have R1 := R0.ext hw1
    obtain ⟨⟨p0, p1, p2, p3, f0, f1, f2, f3⟩, ⟨r0, r1, r2, r3, g0, g1, g2, g3⟩, z0, z1⟩ := R1.cells
    have HR1 := hid R1
    clear R0 R1 hw1
    unfold agg
    simp only []
    go_wp2_with fail
    exact bodyPost_ret (v := .tuple #[.agg #[Sv c.s, .int .i64 (c.pos + vlen 10 c.ahead : Nat), .int .i64 c.en, .int .i64 c.code], .int .i64 U]) (by simp only [results, Try.results126]; go_simp) rfl
      (RSPost.mk_ok (c' := { c with pos := c.pos + vlen 10 c.ahead }) HC.out HR.out rfl rfl hf3 HC.out (fun _ => rfl) (by ((repeat (first | (with_reducible refine Below.drew ?_) | (with_reducible refine Below.setCell ?_ (by simp <;> omega) _) | (with_reducible refine Below.alloc ?_ (by simp <;> omega) _))); exact (HR1).out.bel)))
  · have HR := hid ((HR0.out _).2 (if_neg hle))
    have hgt : 2147483647 < U := by omega
    clear HR0
    unfold agg
    go_enter Try.func126, Try.ntmps126
    go_wp2_with fail
    refine (rvread_any c _ hf).mono ?_; rintro e w1 ⟨c2, u, rfl, hv3, hw1⟩
    obtain ⟨e1, e2, e3⟩ := hv3.good HC.out
    have hf3 := hv3.fit
    obtain rfl := e3 HV.out
    rw [e2, HU.out]
    clear e1 e2 e3 hv3
    have R1 := R0.ext hw1
    obtain ⟨⟨p0, p1, p2, p3, f0, f1, f2, f3⟩, ⟨r0, r1, r2, r3, g0, g1, g2, g3⟩, z0, z1⟩ := R1.cells
    have HR1 := hid (R1.put { c with pos := c.pos + vlen 10 c.ahead })
    clear R0 R1 hw1
    unfold agg
    simp only []
    go_wp2_with fail
    refine (rfail_any { c with pos := c.pos + vlen 10 c.ahead } 4 _).mono ?_; rintro e w2 ⟨rfl, hw2⟩
    rw [fail_at _ HC.out]
    have R2 := HR1.out.ext hw2
    obtain ⟨⟨p0, p1, p2, p3, f0, f1, f2, f3⟩, ⟨r0, r1, r2, r3, g0, g1, g2, g3⟩, z0, z1⟩ := R2.cells
    have HR2 := hid R2
    clear R2 hw2 HR1
    unfold agg
    simp only []
    go_wp2_with fail
    exact bodyPost_ret (v := .tuple #[.agg #[Sv c.s, .int .i64 (c.pos + vlen 10 c.ahead : Nat), .int .i64 c.en, .int .i64 4], .int .i64 0]) (by simp only [results, Try.results126]; go_simp) rfl
      (RSPost.mk_ok (c' := { c with pos := c.pos + vlen 10 c.ahead, code := 4 }) HC.out HR.out rfl rfl ⟨hf3.le1, hf3.le2, hf3.le3⟩ rfl (fun h => absurd h (by decide)) (by ((repeat (first | (with_reducible refine Below.drew ?_) | (with_reducible refine Below.setCell ?_ (by simp <;> omega) _) | (with_reducible refine Below.alloc ?_ (by simp <;> omega) _))); exact (HR2).out.bel)))
end Go.Proofs.Ytdjbgojdkaipfaa
