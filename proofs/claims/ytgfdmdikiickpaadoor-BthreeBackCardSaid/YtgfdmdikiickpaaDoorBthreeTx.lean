/-
  The law BthreeTexts.
-/
import Derived.Test.YtgfdmdikiickpaaDoorBthreeLaw
import Derived.Test.YtgfdmdikiickpaaDoorBrefC
import Derived.Test.YtgfdmdikiickpaaDoorOpenHdr
namespace Go.Proofs.YtgfdmdikiickpaaDoor
open Go.RowKit

theorem guard_nul : Tryd.prog.eqGuardType Tryd.prog.depth 23 = false := by kernel_rfl
@[go_sem] theorem run_eqGuard_nul (w : World) (op : BinOp) (x y : Operand) (m m' : Mu) : (eqGuard op 23 x y (Mv m) (Mv m')).run Tryd.prog w = .ok () w := run_eqGuard_agg w op _ x y _ _ guard_nul
theorem run_eq_nul (u : World) (m : Mu) : (binOp .eql 23 (Mv m) (Mv m)).run Tryd.prog u = .ok (.bool true) u := by
  obtain ⟨a, b, c, d, e⟩ := m
  unfold Mv
  simp only
  go_simp
set_option maxRecDepth 100000 in
set_option maxHeartbeats 4000000 in
theorem bthreeTexts_any (t x p : List UInt8) (k : Int) (w : World) (hl : Okc t x p) :
    Calls Tryd.prog 4 #[Cv t x p k] w fun e w' => e = .returned (.bool true) ∧ Below w.heap.size w w' := by
  have HF := hid ((Frm.start w).new 29 (cc t x p k).toArray rfl)
  have HL := hid hl
  have h1 := fun u => btextone_any t x p k u hl
  have h2 := fun u => rtextone_any t x p k u hl
  have h3 := fun u => btextmulti_any t x p k u hl
  have h4 := fun u => rtextmulti_any t x p k u hl
  generalize oneT t x p k = S at h1 h2
  generalize multiT t x p k = m at h3 h4
  have qm := fun u => run_eq_nul u m
  clear hl
  go_enter Tryd.func4, Tryd.ntmps4
  go_upto_region 1 with fail
  refine region_steady (fun u => Frm w u [(w.heap.size, 29, (cc t x p k).toArray)]) (by kernel_rfl) (by kernel_rfl) (HF.out.drew) ?_
  refine steady_load 29 (.tmp 1) rfl (by rfl) (fun u h => h.loadCv 0 rfl HL.out) ?_
  try simp only [Act.put, List.setIfInBounds_toArray, List.set_cons_zero, List.set_cons_succ]
  refine steady_call (fun u h => frm_call h (h1 u)) (by rfl) (fun u => by go_simp) ?_
  try simp only [Act.put, List.setIfInBounds_toArray, List.set_cons_zero, List.set_cons_succ]
  refine steady_load 29 (.tmp 1) rfl (by rfl) (fun u h => h.loadCv 0 rfl HL.out) ?_
  try simp only [Act.put, List.setIfInBounds_toArray, List.set_cons_zero, List.set_cons_succ]
  refine steady_call (fun u h => frm_call h (h2 u)) (by rfl) (fun u => by go_simp) ?_
  try simp only [Act.put, List.setIfInBounds_toArray, List.set_cons_zero, List.set_cons_succ]
  repeat (first
    | (refine steady_off (by rfl) ?_; try simp only [Act.put, List.setIfInBounds_toArray, List.set_cons_zero, List.set_cons_succ])
    | (refine steady_pure (v := ?_) (by rfl) ?_ ?_; rotate_left; (focus (intro u; go_simp; with_reducible rfl)); try simp only [Act.put, List.setIfInBounds_toArray, List.set_cons_zero, List.set_cons_succ]))
  refine steady_load 29 (.tmp 1) rfl (by rfl) (fun u h => h.loadCv 0 rfl HL.out) ?_
  try simp only [Act.put, List.setIfInBounds_toArray, List.set_cons_zero, List.set_cons_succ]
  refine steady_call (fun u h => frm_call h (h3 u)) (by rfl) (fun u => by go_simp) ?_
  try simp only [Act.put, List.setIfInBounds_toArray, List.set_cons_zero, List.set_cons_succ]
  refine steady_load 29 (.tmp 1) rfl (by rfl) (fun u h => h.loadCv 0 rfl HL.out) ?_
  try simp only [Act.put, List.setIfInBounds_toArray, List.set_cons_zero, List.set_cons_succ]
  refine steady_call (fun u h => frm_call h (h4 u)) (by rfl) (fun u => by go_simp) ?_
  try simp only [Act.put, List.setIfInBounds_toArray, List.set_cons_zero, List.set_cons_succ]
  repeat (first
    | (refine steady_off (by rfl) ?_; try simp only [Act.put, List.setIfInBounds_toArray, List.set_cons_zero, List.set_cons_succ])
    | (refine steady_pure (v := ?_) (by rfl) ?_ ?_; rotate_left; (focus (intro u; go_simp; with_reducible rfl)); try simp only [Act.put, List.setIfInBounds_toArray, List.set_cons_zero, List.set_cons_succ]))
  refine steady_call (fun u h => frm_call h (bworks_any u)) (by rfl) (fun u => by go_simp) ?_
  try simp only [Act.put, List.setIfInBounds_toArray, List.set_cons_zero, List.set_cons_succ]
  repeat (first
    | (refine steady_off (by rfl) ?_; try simp only [Act.put, List.setIfInBounds_toArray, List.set_cons_zero, List.set_cons_succ])
    | (refine steady_pure (v := ?_) (by rfl) ?_ ?_; rotate_left; (focus (intro u; go_simp; with_reducible rfl)); try simp only [Act.put, List.setIfInBounds_toArray, List.set_cons_zero, List.set_cons_succ]))
  refine steady_nil (fun w1 h1 => ?_)
  have HF1 := hid h1
  clear h1
  go_wp2_with fail
  go_ret
  exact ⟨rfl, HF1.out.bel⟩
end Go.Proofs.YtgfdmdikiickpaaDoor
