/-
  Walks of package b3: sampled, may.
-/
import Derived.Test.YtgfdmdikiickpaaDoorBthree
import Derived.Test.YtgfdmdikiickpaaDoorToken
namespace Go.Proofs.YtgfdmdikiickpaaDoor
open Go.RowKit

def Mv (m : Mu) : Value := .agg #[Sv m.1, Sv m.2.1, Sv m.2.2.1, Sv m.2.2.2.1, Sv m.2.2.2.2]
set_option maxRecDepth 100000 in
set_option maxHeartbeats 2000000 in
theorem bsampled_any (m : Mu) (w : World) :
    Calls Tryd.prog 44 #[Mv m] w fun e w' => e = .returned (.tuple #[.int .i64 (sampR m.2.2.2.1 m.2.2.2.2).1, .int .i64 (sampR m.2.2.2.1 m.2.2.2.2).2]) ∧ Below w.heap.size w w' := by
  obtain ⟨tr, sp, pa, sa, fl⟩ := m
  unfold Mv
  go_enter Tryd.func44, Tryd.ntmps44
  go_wp2_with fail
  all_goals
    go_ret2
    exact ⟨by simp_all [sampR, sfalse, strue], ext_alloc _ _⟩
set_option maxRecDepth 100000 in
set_option maxHeartbeats 2000000 in
theorem bmay_any (t x p : List UInt8) (k : Int) (w : World) (hl : Okc t x p) :
    Calls Tryd.prog 46 #[Cv t x p k] w fun e w' => e = .returned (.tuple #[.bool (named t), .bool (mayC t x p k)]) ∧ Below w.heap.size w w' := by
  have HF := hid ((Frm.start w).new 29 (cc t x p k).toArray rfl)
  have HL := hid hl
  have eq1 := fun u => run_neq_z16 u t hl.1
  have eq2 := fun u => run_neq_z8 u x hl.2.1
  have eq3 := fun u => run_neq_z8 u p hl.2.2
  have HM := hid (show named t = !(t == zb 16) from rfl)
  have HC := hid (show mayC t x p k = (decide (0 ≤ k) && decide (k ≤ 3) && ((t == zb 16) == (x == zb 8)) && (!(t == zb 16) || (p == zb 8))) from rfl)
  generalize hA : (t == zb 16) = A at eq1 HM HC
  generalize hB : (x == zb 8) = B at eq2 HC
  generalize hC : (p == zb 8) = C at eq3 HC
  have HA := hid hA
  clear hl hA hB hC
  go_enter Tryd.func46, Tryd.ntmps46
  go_upto_region 1 with fail
  refine region_steady (fun u => Frm w u [(w.heap.size, 29, (cc t x p k).toArray)]) (by kernel_rfl) (by kernel_rfl) (HF.out.drew) ?_
  repeat (first
    | (refine steady_off (by rfl) ?_; try simp only [Act.put, List.setIfInBounds_toArray, List.set_cons_zero, List.set_cons_succ])
    | (refine steady_pure (v := ?_) (by rfl) ?_ ?_; rotate_left; (focus (intro u; go_simp; with_reducible rfl)); try simp only [Act.put, List.setIfInBounds_toArray, List.set_cons_zero, List.set_cons_succ]))
  refine steady_load 25 (.tmp 8) rfl (by rfl) (fun u h => h.loadT 0 rfl HL.out) ?_
  try simp only [Act.put, List.setIfInBounds_toArray, List.set_cons_zero, List.set_cons_succ]
  repeat (first
    | (refine steady_off (by rfl) ?_; try simp only [Act.put, List.setIfInBounds_toArray, List.set_cons_zero, List.set_cons_succ])
    | (refine steady_pure (v := ?_) (by rfl) ?_ ?_; rotate_left; (focus (intro u; go_simp; with_reducible rfl)); try simp only [Act.put, List.setIfInBounds_toArray, List.set_cons_zero, List.set_cons_succ]))
  refine steady_load 27 (.tmp 12) rfl (by rfl) (fun u h => h.loadX 0 rfl HL.out) ?_
  try simp only [Act.put, List.setIfInBounds_toArray, List.set_cons_zero, List.set_cons_succ]
  repeat (first
    | (refine steady_off (by rfl) ?_; try simp only [Act.put, List.setIfInBounds_toArray, List.set_cons_zero, List.set_cons_succ])
    | (refine steady_pure (v := ?_) (by rfl) ?_ ?_; rotate_left; (focus (intro u; go_simp; with_reducible rfl)); try simp only [Act.put, List.setIfInBounds_toArray, List.set_cons_zero, List.set_cons_succ]))
  refine steady_load 27 (.tmp 16) rfl (by rfl) (fun u h => h.loadP 0 rfl HL.out) ?_
  try simp only [Act.put, List.setIfInBounds_toArray, List.set_cons_zero, List.set_cons_succ]
  repeat (first
    | (refine steady_off (by rfl) ?_; try simp only [Act.put, List.setIfInBounds_toArray, List.set_cons_zero, List.set_cons_succ])
    | (refine steady_pure (v := ?_) (by rfl) ?_ ?_; rotate_left; (focus (intro u; go_simp; with_reducible rfl)); try simp only [Act.put, List.setIfInBounds_toArray, List.set_cons_zero, List.set_cons_succ]))
  refine steady_nil (fun w1 h1 => ?_)
  have HF1 := hid h1
  have c32 := h1.cellK 0 rfl HL.out
  clear h1 eq1 eq2 eq3
  rcases (by omega : k < 0 ∨ (0 ≤ k ∧ k ≤ 3) ∨ 3 < k) with h0 | ⟨h0, h3⟩ | h3
  · have e1 : decide (0 ≤ k) = false := by simp; omega
    rw [e1, Bool.false_and, Bool.false_and, Bool.false_and] at HC
    cases A <;> cases B <;> cases C
    all_goals
      go_wp2_with fail
      go_ret2
      exact ⟨by rw [HM.out, HC.out]; rfl, HF1.out.bel⟩
  · have e1 : decide (0 ≤ k) = true := by simp; omega
    have e2 : decide (k ≤ 3) = true := by simp; omega
    rw [e1, e2] at HC
    cases A <;> cases B <;> cases C
    all_goals
      go_wp2_with fail
      go_ret2
      exact ⟨by rw [HM.out, HC.out]; rfl, HF1.out.bel⟩
  · have e2 : decide (k ≤ 3) = false := by simp; omega
    have h0 : 0 ≤ k := by omega
    rw [e2, Bool.and_false, Bool.false_and, Bool.false_and] at HC
    cases A <;> cases B <;> cases C
    all_goals
      go_wp2_with fail
      go_ret2
      exact ⟨by rw [HM.out, HC.out]; rfl, HF1.out.bel⟩
end Go.Proofs.YtgfdmdikiickpaaDoor
