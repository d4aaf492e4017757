/-
  Walks of the reference of package cskip: what holds nothing, and what stands within.
-/
import Derived.Test.YtdjbgojdkaipfaaSkipC
namespace Go.Proofs.Ytdjbgojdkaipfaa
open Go.RowKit

def RK (R : List UInt8 → Int × Nat) (c : Cu) (w : World) (e : Ending) (w' : World) : Prop :=
  ∃ c', e = .returned (agg c') ∧ RdF R c c' ∧ Below w.heap.size w w'
theorem RK.mk {R : List UInt8 → Int × Nat} {c c' : Cu} {w w' : World} (hr : RdF R c c') (hg : Below w.heap.size w w') : RK R c w (.returned (agg c')) w' := ⟨c', rfl, hr, hg⟩
def z0 : Cu := ⟨[], 0, 0, 0⟩
def holdsB (k : Int) : Bool := decide (9 ≤ k ∧ k ≤ 12)
set_option maxRecDepth 100000 in
theorem rholds_any (k : Int) (w : World) :
    Calls Try.prog 129 #[.int .u8 k] w fun e w' => e = .returned (.bool (holdsB k)) ∧ w = w' := by
  by_cases a : 9 ≤ k
  · by_cases b : k ≤ 12
    · have hk := hid (show holdsB k = true from decide_eq_true ⟨a, b⟩)
      go_enter Try.func129, Try.ntmps129
      go_wp2
      go_ret
      exact ⟨by rw [hk.out]; rfl, rfl⟩
    · have hk := hid (show holdsB k = false from decide_eq_false (fun h => b h.2))
      go_enter Try.func129, Try.ntmps129
      go_wp2
      go_ret
      exact ⟨by rw [hk.out]; rfl, rfl⟩
  · have hk := hid (show holdsB k = false from decide_eq_false (fun h => a h.1))
    go_enter Try.func129, Try.ntmps129
    go_wp2
    go_ret
    exact ⟨by rw [hk.out]; rfl, rfl⟩
set_option maxRecDepth 100000 in
set_option maxHeartbeats 1000000 in
theorem rtextb_any (c : Cu) (w : World) (hf : c.fit) :
    Calls Try.prog 131 #[agg c] w fun e w' => RK textR c w e w' := by
  have R0 := R2.new w c
  by_cases hc0 : c.code = 0
  case neg =>
    have hne : (c.code == 0) = false := by simpa using hc0
    have HC := hid hc0
    clear hc0
    unfold agg
    go_enter Try.func131, Try.ntmps131
    go_wp2_with fail
    refine (rvread_any c _ hf).mono ?_; rintro e w1 ⟨c2, u, rfl, hv3, hw1⟩
    obtain ⟨rfl, rfl⟩ := hv3.bad HC.out
    have R1 := R0.ext hw1
    obtain ⟨⟨p0, p1, p2, p3, f0, f1, f2, f3⟩, ⟨r0, r1, r2, r3, g0, g1, g2, g3⟩, z0, z1⟩ := R1.cells
    have HR1 := hid (R1.put c2)
    clear hv3 R0 R1 hw1
    unfold agg
    go_wp2_with fail
    refine (rtake_any c2 0 _ hf).mono ?_; rintro e w2 ⟨rfl, hw2⟩
    rw [Cu.take_bad HC.out]
    have R2 := HR1.out.ext hw2
    obtain ⟨⟨p0, p1, p2, p3, f0, f1, f2, f3⟩, ⟨r0, r1, r2, r3, g0, g1, g2, g3⟩, z0, z1⟩ := R2.cells
    have HR2 := hid R2
    clear HR1 R2 hw2
    unfold agg
    simp only []
    go_wp2_with fail
    exact bodyPost_ret (v := .agg #[Sv c2.s, .int .i64 c2.pos, .int .i64 c2.en, .int .i64 c2.code]) (by simp only [results, Try.results131]; go_simp) rfl
      (RK.mk (c' := c2) (RdF.stay _ hf HC.out) (by ((repeat (first | (with_reducible refine Below.drew ?_) | (with_reducible refine Below.setCell ?_ (by simp <;> omega) _) | (with_reducible refine Below.alloc ?_ (by simp <;> omega) _))); exact (HR2).out.bel)))
  have HC := hid hc0
  by_cases hv0 : vcode c.ahead = 0
  case neg =>
    have HR := hid (show textR c.ahead = (vcode c.ahead, 0) by rw [textR, if_neg hv0])
    have HV := hid hv0
    clear hv0 hc0
    unfold agg
    go_enter Try.func131, Try.ntmps131
    go_wp2_with fail
    refine (rvread_any c _ hf).mono ?_; rintro e w1 ⟨c2, u, rfl, hv3, hw1⟩
    have hrd := hid (rd_var hv3)
    obtain ⟨e1, e2, e3⟩ := hv3.good HC.out
    have hf2 := hv3.fit
    have huz : u = 0 := by rw [e2, vnum, if_neg HV.out]
    subst huz
    have hne0 : c2.code ≠ 0 := by rw [e1]; exact HV.out
    have hne : (c2.code == 0) = false := by simpa using hne0
    have HN := hid hne0
    have R1 := R0.ext hw1
    obtain ⟨⟨p0, p1, p2, p3, f0, f1, f2, f3⟩, ⟨r0, r1, r2, r3, g0, g1, g2, g3⟩, z0, z1⟩ := R1.cells
    have HR1 := hid (R1.put c2)
    clear hv3 R0 R1 hw1 e1 e2 e3 hne0
    unfold agg
    go_wp2_with fail
    refine (rtake_any c2 0 _ hf2).mono ?_; rintro e w2 ⟨rfl, hw2⟩
    rw [Cu.take_bad HN.out]
    have R2 := HR1.out.ext hw2
    obtain ⟨⟨p0, p1, p2, p3, f0, f1, f2, f3⟩, ⟨r0, r1, r2, r3, g0, g1, g2, g3⟩, z0, z1⟩ := R2.cells
    have HR2 := hid R2
    clear HR1 R2 hw2
    unfold agg
    simp only []
    go_wp2_with fail
    exact bodyPost_ret (v := .agg #[Sv c2.s, .int .i64 c2.pos, .int .i64 c2.en, .int .i64 c2.code]) (by simp only [results, Try.results131]; go_simp) rfl
      (RK.mk (c' := c2) (hrd.out.of_eq fun _ => by rw [HR.out]; exact ⟨rfl, fun hz => absurd hz HV.out⟩) (by ((repeat (first | (with_reducible refine Below.drew ?_) | (with_reducible refine Below.setCell ?_ (by simp <;> omega) _) | (with_reducible refine Below.alloc ?_ (by simp <;> omega) _))); exact (HR2).out.bel)))
  obtain ⟨u0, u1⟩ := vnum_bd c.ahead
  have hlv := vlen_le 10 c.ahead
  have hla := ahead_length hf
  have l1 := hf.le1
  have l2 := hf.le2
  have l3 := hf.le3
  have HV := hid hv0
  have hcode : (c.code == 0) = true := by simpa using hc0
  have HR0 := hid (show textR c.ahead = if ((c.ahead.length - vlen 10 c.ahead : Nat) : Int) < vnum c.ahead then (1, 0) else (0, vlen 10 c.ahead + (vnum c.ahead).toNat) by rw [textR, if_pos hv0])
  generalize hU : vnum c.ahead = U at u0 u1 HR0
  have HU := hid hU
  clear hv0 hc0 hU
  have hlf : ((c.en : Int) - (c.pos + vlen 10 c.ahead : Nat)) = ((c.ahead.length - vlen 10 c.ahead : Nat) : Int) := by omega
  have hlf2 : ((c.en : Int) - ((c.pos : Int) + (vlen 10 c.ahead : Int))) = ((c.ahead.length - vlen 10 c.ahead : Nat) : Int) := by omega
  by_cases hlt : ((c.ahead.length - vlen 10 c.ahead : Nat) : Int) < U
  · have HR := hid (show textR c.ahead = (1, 0) by rw [HR0.out, if_pos hlt])
    have hwl : IntKind.u64.wrap ((c.ahead.length - vlen 10 c.ahead : Nat) : Int) = ((c.ahead.length - vlen 10 c.ahead : Nat) : Int) := by rw [IntKind.wrap_u64]; omega
    have hwi : IntKind.i64.wrap ((c.ahead.length - vlen 10 c.ahead : Nat) : Int) = ((c.ahead.length - vlen 10 c.ahead : Nat) : Int) := by rw [IntKind.wrap_i64]; omega
    generalize hX : ((c.ahead.length - vlen 10 c.ahead : Nat) : Int) = X at hlt hwl hwi hlf hlf2
    clear HR0 hX
    unfold agg
    go_enter Try.func131, Try.ntmps131
    go_wp2_with fail
    refine (rvread_any c _ hf).mono ?_; rintro e w1 ⟨c2, u, rfl, hv3, hw1⟩
    obtain ⟨e1, e2, e3⟩ := hv3.good HC.out
    have hf2 := hv3.fit
    obtain rfl := e3 HV.out
    rw [e2, HU.out]
    have R1 := R0.ext hw1
    obtain ⟨⟨p0, p1, p2, p3, f0, f1, f2, f3⟩, ⟨r0, r1, r2, r3, g0, g1, g2, g3⟩, z0, z1⟩ := R1.cells
    have HR1 := hid (R1.put { c with pos := c.pos + vlen 10 c.ahead })
    clear hv3 R0 R1 hw1 e1 e2 e3
    unfold agg
    simp only []
    go_wp2_with fail
    refine (rfail_any { c with pos := c.pos + vlen 10 c.ahead } 1 _).mono ?_; rintro e w2 ⟨rfl, hw2⟩
    rw [fail_at _ HC.out]
    have R2 := HR1.out.ext hw2
    obtain ⟨⟨p0, p1, p2, p3, f0, f1, f2, f3⟩, ⟨r0, r1, r2, r3, g0, g1, g2, g3⟩, z0, z1⟩ := R2.cells
    have HR2 := hid R2
    clear HR1 R2 hw2
    unfold agg
    simp only []
    go_wp2_with fail
    exact bodyPost_ret (v := .agg #[Sv c.s, .int .i64 (c.pos + vlen 10 c.ahead : Nat), .int .i64 c.en, .int .i64 1]) (by simp only [results, Try.results131]; go_simp) rfl
      (RK.mk (c' := { c with pos := c.pos + vlen 10 c.ahead, code := 1 }) ⟨rfl, rfl, ⟨hf2.le1, hf2.le2, hf2.le3⟩, fun h => absurd HC.out h, fun _ => by rw [HR.out]; exact ⟨rfl, fun hz => absurd hz (by decide)⟩⟩ (by ((repeat (first | (with_reducible refine Below.drew ?_) | (with_reducible refine Below.setCell ?_ (by simp <;> omega) _) | (with_reducible refine Below.alloc ?_ (by simp <;> omega) _))); exact (HR2).out.bel)))
  · have HR := hid (show textR c.ahead = (0, vlen 10 c.ahead + U.toNat) by rw [HR0.out, if_neg hlt])
    have hwl : IntKind.u64.wrap ((c.ahead.length - vlen 10 c.ahead : Nat) : Int) = ((c.ahead.length - vlen 10 c.ahead : Nat) : Int) := by rw [IntKind.wrap_u64]; omega
    have hwi : IntKind.i64.wrap ((c.ahead.length - vlen 10 c.ahead : Nat) : Int) = ((c.ahead.length - vlen 10 c.ahead : Nat) : Int) := by rw [IntKind.wrap_i64]; omega
    have hwu : IntKind.i64.wrap U = U := by rw [IntKind.wrap_i64]; omega
    have hwu2 : wrap64 U = U := by unfold wrap64; omega
    have hu64 : U ≤ 9223372036854775807 := by omega
    have hk : ({ c with pos := c.pos + vlen 10 c.ahead } : Cu).take U = { c with pos := c.pos + (vlen 10 c.ahead + U.toNat) } := by
      have hw : ({ c with pos := c.pos + vlen 10 c.ahead } : Cu).why U = 0 := by
        unfold Cu.why
        rw [if_neg (by simpa using HC.out), if_neg (by omega), if_neg (by show ¬ ((c.en : Int) - (c.pos + vlen 10 c.ahead : Nat) < U); omega)]
      rw [Cu.take, hw, if_pos rfl]
      simp only [Nat.add_assoc]
    have HK := hid hk
    have hfit : ({ c with pos := c.pos + (vlen 10 c.ahead + U.toNat) } : Cu).fit := ⟨by show c.pos + (vlen 10 c.ahead + U.toNat) ≤ c.en; omega, l2, l3⟩
    generalize hX : ((c.ahead.length - vlen 10 c.ahead : Nat) : Int) = X at hlt hwl hwi hlf hlf2
    clear HR0 hX hk
    unfold agg
    go_enter Try.func131, Try.ntmps131
    go_wp2_with fail
    refine (rvread_any c _ hf).mono ?_; rintro e w1 ⟨c2, u, rfl, hv3, hw1⟩
    obtain ⟨e1, e2, e3⟩ := hv3.good HC.out
    have hf2 := hv3.fit
    obtain rfl := e3 HV.out
    rw [e2, HU.out]
    have R1 := R0.ext hw1
    obtain ⟨⟨p0, p1, p2, p3, f0, f1, f2, f3⟩, ⟨r0, r1, r2, r3, g0, g1, g2, g3⟩, z0, z1⟩ := R1.cells
    have HR1 := hid (R1.put { c with pos := c.pos + vlen 10 c.ahead })
    clear hv3 R0 R1 hw1 e1 e2 e3
    unfold agg
    simp only []
    go_wp2_with fail
    refine (rtake_any { c with pos := c.pos + vlen 10 c.ahead } U _ hf2).mono ?_; rintro e w2 ⟨rfl, hw2⟩
    rw [HK.out]
    have R2 := HR1.out.ext hw2
    obtain ⟨⟨p0, p1, p2, p3, f0, f1, f2, f3⟩, ⟨r0, r1, r2, r3, g0, g1, g2, g3⟩, z0, z1⟩ := R2.cells
    have HR2 := hid R2
    clear HR1 R2 hw2
    unfold agg
    simp only []
    go_wp2_with fail
    exact bodyPost_ret (v := .agg #[Sv c.s, .int .i64 (c.pos + (vlen 10 c.ahead + U.toNat) : Nat), .int .i64 c.en, .int .i64 c.code]) (by simp only [results, Try.results131]; go_simp) rfl
      (RK.mk (c' := { c with pos := c.pos + (vlen 10 c.ahead + U.toNat) }) ⟨rfl, rfl, hfit, fun h => absurd HC.out h, fun _ => by rw [HR.out]; exact ⟨HC.out, fun _ => rfl⟩⟩ (by ((repeat (first | (with_reducible refine Below.drew ?_) | (with_reducible refine Below.setCell ?_ (by simp <;> omega) _) | (with_reducible refine Below.alloc ?_ (by simp <;> omega) _))); exact (HR2).out.bel)))
end Go.Proofs.Ytdjbgojdkaipfaa
