/-
  Texts for the laws of this seat, merged: ParentRefG, ParentLaw.
-/
import Derived.Test.YtgfdmdikiickpaaGreatDoorMC
import Derived.Test.YtgfdmdikiickpaaGreatDoorMD
/-! ParentRefG -/
namespace Go.Proofs.YtgfdmdikiickpaaGreatDoor
open Go.RowKit

set_option maxRecDepth 100000 in
set_option maxHeartbeats 4000000 in
theorem rhread_dig2 (s : List UInt8) (w : World) (hs : s.length ≤ 140737488355328) (hsp : splitOk s = true) (hd : digB (pV s ++ pF s) = true) (hv : ¬ verBad s) (he : digB (pT s ++ pX s) = false) :
    Calls Tryz.prog 28 #[Sv s] w fun e w' => e = .returned (hdrOut (readH s)) ∧ Below w.heap.size w w' := by
  obtain ⟨W, hW⟩ : ∃ W, W = w.alloc (.cells #[.int .u8 0, .int .u8 0, .int .u8 0, .int .u8 0, .int .u8 0, .int .u8 0, .int .u8 0, .int .u8 0, .int .u8 0, .int .u8 0, .int .u8 0, .int .u8 0, .int .u8 0, .int .u8 0, .int .u8 0, .int .u8 0, .int .u8 0, .int .u8 0, .int .u8 0, .int .u8 0, .int .u8 0, .int .u8 0, .int .u8 0, .int .u8 0, .int .u8 0, .int .u8 0] 56) := ⟨_, rfl⟩
  have HW := hid hW
  have HA : Hid (Blk W w.heap.size 56 (hc 0 (zb 16) (zb 8) 0).toArray) := by rw [hW]; exact Blk.new w _ _
  have HBW : Hid (Below w.heap.size w W) := by rw [hW]; exact ext_alloc w _
  clear hW
  have hsp' : 55 ≤ s.length ∧ byteAt s 2 = 45 ∧ byteAt s 35 = 45 ∧ byteAt s 52 = 45 := by unfold splitOk at hsp; exact of_decide_eq_true hsp
  obtain ⟨k0, h1, h2, h3⟩ := hsp'
  have q0 : ¬ ((s.length : Int) < 55) := by omega
  have HQ0 := hid (show decide ((s.length : Int) < 55) = false from decide_eq_false q0)
  have q2 : (2 : Int) < (s.length : Int) := by omega
  have q35 : (35 : Int) < (s.length : Int) := by omega
  have q52 : (52 : Int) < (s.length : Int) := by omega
  have q55 : (55 : Int) ≤ (s.length : Int) := by omega
  have q22 : (2 : Int) ≤ (s.length : Int) := by omega
  have q35' : (35 : Int) ≤ (s.length : Int) := by omega
  have q52' : (52 : Int) ≤ (s.length : Int) := by omega
  have b1 : (byteAt s 2 != 45) = false := by simpa using h1
  have b2 : (byteAt s 35 != 45) = false := by simpa using h2
  have b3 : (byteAt s 52 != 45) = false := by simpa using h3
  clear h1 h2 h3
  have lV : (pV s).length = 2 := by unfold pV; simp; omega
  have lF : (pF s).length = 2 := by unfold pF; simp; omega
  have hdd : digB (pV s) = true ∧ digB (pF s) = true := by rw [digB_app] at hd; simpa using hd
  have HD := hid (show digB (s.take 2 ++ (s.drop 53).take 2) = true from hd)
  obtain ⟨t1, t2⟩ := two_val lV hdd.1
  have qf : (s.take 2 == [102, 102]) = false := beq_eq_false_iff_ne.2 fun h => hv (.inl (t1.2 h))
  have lT : (pT s).length = 32 := by unfold pT; simp; omega
  have lX : (pX s).length = 16 := by unfold pX; simp; omega
  have k1 := traceC_dig lT
  have k2 := spanC_dig lX
  have HE := hid (show digB ((s.drop 3).take 32 ++ (s.drop 36).take 16) = false from he)
  have HR := hid (show hdrOut (readH s) = .tuple #[Hv 0 (zb 16) (zb 8) 0, .int .i64 3] by
    rw [← hdrOut_bad]; unfold readH; rw [if_pos hsp, (two_ok lV).1, (two_ok lF).1, if_pos hdd, if_neg hv, if_pos]
    rw [digB_app] at he
    rw [k1, k2]
    cases hq : digB (pT s) with
    | false => exact .inl rfl
    | true => rw [hq] at he; exact .inr he)
  clear he
  by_cases hl : 55 < s.length
  · have ql : (55 : Int) < (s.length : Int) := by omega
    have qz : (s.take 2 == [48, 48]) = false := beq_eq_false_iff_ne.2 fun h => hv (.inr (.inl ⟨t2.2 h, hl⟩))
    have qd : (byteAt s 55 != 45) = false := by
      by_cases h : byteAt s 55 = 45
      · simpa using h
      · exact absurd (.inr (.inr ⟨hl, h⟩)) hv
    clear hsp hd hv hdd t1 t2 k1 k2 lT lX lV lF hl
    go_enter Tryz.func28, Tryz.ntmps28
    go_wp2_with fail
    rw [← HW.out]
    refine region_steady (fun u => Below W.heap.size W u) (by kernel_rfl) (by kernel_rfl) (ext_drew _) ?_
    have qd0 := HQ0.out
    repeat (first
      | (refine steady_off (by rfl) ?_; try simp only [Act.put, List.setIfInBounds_toArray, List.set_cons_zero, List.set_cons_succ])
      | (refine steady_pure (v := ?_) (by rfl) ?_ ?_; rotate_left; (focus (intro u; go_simp; with_reducible rfl)); try simp only [Act.put, List.setIfInBounds_toArray, List.set_cons_zero, List.set_cons_succ]))
    (refine steady_add _ _ _ _ rfl (by rfl) (by rfl) ?_ (by rfl) ?_; (focus (simp only [List.length_take, List.length_drop]; omega)); try simp only [Act.put, List.setIfInBounds_toArray, List.set_cons_zero, List.set_cons_succ])
    refine steady_call (fun u hu => bel_call hu (HD.out ▸ rdigits_bel _ u (by simp only [List.length_append, List.length_take, List.length_drop]; omega))) (by rfl) (fun u => by go_simp) ?_
    try simp only [Act.put, List.setIfInBounds_toArray, List.set_cons_zero, List.set_cons_succ]
    repeat (first
      | (refine steady_off (by rfl) ?_; try simp only [Act.put, List.setIfInBounds_toArray, List.set_cons_zero, List.set_cons_succ])
      | (refine steady_pure (v := ?_) (by rfl) ?_ ?_; rotate_left; (focus (intro u; go_simp; with_reducible rfl)); try simp only [Act.put, List.setIfInBounds_toArray, List.set_cons_zero, List.set_cons_succ]))
    refine steady_nil (fun u1 hu1 => ?_)
    clear qd0
    have HA1 := hid (HA.out.below hu1 HA.out.lt)
    have HB1 := hid (HBW.out.trans (hu1.mono HBW.out.size))
    clear hu1 HD HA HBW
    go_wp2_with fail
    refine region_steady (fun u => Below u1.heap.size u1 u) (by kernel_rfl) (by kernel_rfl) (ext_drew _) ?_
    repeat (first
      | (refine steady_off (by rfl) ?_; try simp only [Act.put, List.setIfInBounds_toArray, List.set_cons_zero, List.set_cons_succ])
      | (refine steady_pure (v := ?_) (by rfl) ?_ ?_; rotate_left; (focus (intro u; go_simp; with_reducible rfl)); try simp only [Act.put, List.setIfInBounds_toArray, List.set_cons_zero, List.set_cons_succ]))
    (refine steady_add _ _ _ _ rfl (by rfl) (by rfl) ?_ (by rfl) ?_; (focus (simp only [List.length_take, List.length_drop]; omega)); try simp only [Act.put, List.setIfInBounds_toArray, List.set_cons_zero, List.set_cons_succ])
    refine steady_call (fun u hu => bel_call hu (HE.out ▸ rdigits_bel _ u (by simp only [List.length_append, List.length_take, List.length_drop]; omega))) (by rfl) (fun u => by go_simp) ?_
    try simp only [Act.put, List.setIfInBounds_toArray, List.set_cons_zero, List.set_cons_succ]
    repeat (first
      | (refine steady_off (by rfl) ?_; try simp only [Act.put, List.setIfInBounds_toArray, List.set_cons_zero, List.set_cons_succ])
      | (refine steady_pure (v := ?_) (by rfl) ?_ ?_; rotate_left; (focus (intro u; go_simp; with_reducible rfl)); try simp only [Act.put, List.setIfInBounds_toArray, List.set_cons_zero, List.set_cons_succ]))
    refine steady_nil (fun u2 hu2 => ?_)
    have HA2 := hid (HA1.out.below hu2 HA1.out.lt)
    have HB2 := hid (HB1.out.trans (hu2.mono HB1.out.size))
    clear hu2 HE HA1 HB1
    go_wp2_with (first
      | (refine wpList_build_to rfl 56 #[] rfl [] _ rfl built_rzero ?_; change wpList _ _ _ _ (Act.put _ _ (Hv 0 (zb 16) (zb 8) 0)) _)
      | (refine wpList_store_hv rfl 56 (.tmp 2) (.tmp 63) rfl w.heap.size _ 0 0 0 0 (zb 16) (zb 8) (zb 16) (zb 8) rfl rfl HA2.out info_rhdr (zb_length _) (zb_length _) (zb_length _) (zb_length _) ?_; intro w9 hw9 hA9; have HA9 := hid hA9; have HW9 := hid hw9; clear hw9 hA9))
    exact bodyPost_ret (results_hv2 rfl _ _ _ _ _ 0 0 (zb 16) (zb 8) rfl HA9.out Tryz.underlying56 rfl info_rhdr (zb_length _) (zb_length _)) rfl ⟨by rw [HR.out]; rfl, by rw [HW9.out]; exact setRow_below HB2.out (Nat.le_refl _) _⟩
  by_cases hz : pV s = [48, 48]
  · have ql : ¬ ((55 : Int) < (s.length : Int)) := by omega
    have qz : (s.take 2 == [48, 48]) = true := by rw [show s.take 2 = pV s from rfl, hz]; rfl
    clear hsp hd hv hdd t1 t2 k1 k2 lT lX lV lF hl hz
    go_enter Tryz.func28, Tryz.ntmps28
    go_wp2_with fail
    rw [← HW.out]
    refine region_steady (fun u => Below W.heap.size W u) (by kernel_rfl) (by kernel_rfl) (ext_drew _) ?_
    have qd0 := HQ0.out
    repeat (first
      | (refine steady_off (by rfl) ?_; try simp only [Act.put, List.setIfInBounds_toArray, List.set_cons_zero, List.set_cons_succ])
      | (refine steady_pure (v := ?_) (by rfl) ?_ ?_; rotate_left; (focus (intro u; go_simp; with_reducible rfl)); try simp only [Act.put, List.setIfInBounds_toArray, List.set_cons_zero, List.set_cons_succ]))
    (refine steady_add _ _ _ _ rfl (by rfl) (by rfl) ?_ (by rfl) ?_; (focus (simp only [List.length_take, List.length_drop]; omega)); try simp only [Act.put, List.setIfInBounds_toArray, List.set_cons_zero, List.set_cons_succ])
    refine steady_call (fun u hu => bel_call hu (HD.out ▸ rdigits_bel _ u (by simp only [List.length_append, List.length_take, List.length_drop]; omega))) (by rfl) (fun u => by go_simp) ?_
    try simp only [Act.put, List.setIfInBounds_toArray, List.set_cons_zero, List.set_cons_succ]
    repeat (first
      | (refine steady_off (by rfl) ?_; try simp only [Act.put, List.setIfInBounds_toArray, List.set_cons_zero, List.set_cons_succ])
      | (refine steady_pure (v := ?_) (by rfl) ?_ ?_; rotate_left; (focus (intro u; go_simp; with_reducible rfl)); try simp only [Act.put, List.setIfInBounds_toArray, List.set_cons_zero, List.set_cons_succ]))
    refine steady_nil (fun u1 hu1 => ?_)
    clear qd0
    have HA1 := hid (HA.out.below hu1 HA.out.lt)
    have HB1 := hid (HBW.out.trans (hu1.mono HBW.out.size))
    clear hu1 HD HA HBW
    go_wp2_with fail
    refine region_steady (fun u => Below u1.heap.size u1 u) (by kernel_rfl) (by kernel_rfl) (ext_drew _) ?_
    repeat (first
      | (refine steady_off (by rfl) ?_; try simp only [Act.put, List.setIfInBounds_toArray, List.set_cons_zero, List.set_cons_succ])
      | (refine steady_pure (v := ?_) (by rfl) ?_ ?_; rotate_left; (focus (intro u; go_simp; with_reducible rfl)); try simp only [Act.put, List.setIfInBounds_toArray, List.set_cons_zero, List.set_cons_succ]))
    (refine steady_add _ _ _ _ rfl (by rfl) (by rfl) ?_ (by rfl) ?_; (focus (simp only [List.length_take, List.length_drop]; omega)); try simp only [Act.put, List.setIfInBounds_toArray, List.set_cons_zero, List.set_cons_succ])
    refine steady_call (fun u hu => bel_call hu (HE.out ▸ rdigits_bel _ u (by simp only [List.length_append, List.length_take, List.length_drop]; omega))) (by rfl) (fun u => by go_simp) ?_
    try simp only [Act.put, List.setIfInBounds_toArray, List.set_cons_zero, List.set_cons_succ]
    repeat (first
      | (refine steady_off (by rfl) ?_; try simp only [Act.put, List.setIfInBounds_toArray, List.set_cons_zero, List.set_cons_succ])
      | (refine steady_pure (v := ?_) (by rfl) ?_ ?_; rotate_left; (focus (intro u; go_simp; with_reducible rfl)); try simp only [Act.put, List.setIfInBounds_toArray, List.set_cons_zero, List.set_cons_succ]))
    refine steady_nil (fun u2 hu2 => ?_)
    have HA2 := hid (HA1.out.below hu2 HA1.out.lt)
    have HB2 := hid (HB1.out.trans (hu2.mono HB1.out.size))
    clear hu2 HE HA1 HB1
    go_wp2_with (first
      | (refine wpList_build_to rfl 56 #[] rfl [] _ rfl built_rzero ?_; change wpList _ _ _ _ (Act.put _ _ (Hv 0 (zb 16) (zb 8) 0)) _)
      | (refine wpList_store_hv rfl 56 (.tmp 2) (.tmp 63) rfl w.heap.size _ 0 0 0 0 (zb 16) (zb 8) (zb 16) (zb 8) rfl rfl HA2.out info_rhdr (zb_length _) (zb_length _) (zb_length _) (zb_length _) ?_; intro w9 hw9 hA9; have HA9 := hid hA9; have HW9 := hid hw9; clear hw9 hA9))
    exact bodyPost_ret (results_hv2 rfl _ _ _ _ _ 0 0 (zb 16) (zb 8) rfl HA9.out Tryz.underlying56 rfl info_rhdr (zb_length _) (zb_length _)) rfl ⟨by rw [HR.out]; rfl, by rw [HW9.out]; exact setRow_below HB2.out (Nat.le_refl _) _⟩
  · have ql : ¬ ((55 : Int) < (s.length : Int)) := by omega
    have qz : (s.take 2 == [48, 48]) = false := beq_eq_false_iff_ne.2 hz
    clear hsp hd hv hdd t1 t2 k1 k2 lT lX lV lF hl hz
    go_enter Tryz.func28, Tryz.ntmps28
    go_wp2_with fail
    rw [← HW.out]
    refine region_steady (fun u => Below W.heap.size W u) (by kernel_rfl) (by kernel_rfl) (ext_drew _) ?_
    have qd0 := HQ0.out
    repeat (first
      | (refine steady_off (by rfl) ?_; try simp only [Act.put, List.setIfInBounds_toArray, List.set_cons_zero, List.set_cons_succ])
      | (refine steady_pure (v := ?_) (by rfl) ?_ ?_; rotate_left; (focus (intro u; go_simp; with_reducible rfl)); try simp only [Act.put, List.setIfInBounds_toArray, List.set_cons_zero, List.set_cons_succ]))
    (refine steady_add _ _ _ _ rfl (by rfl) (by rfl) ?_ (by rfl) ?_; (focus (simp only [List.length_take, List.length_drop]; omega)); try simp only [Act.put, List.setIfInBounds_toArray, List.set_cons_zero, List.set_cons_succ])
    refine steady_call (fun u hu => bel_call hu (HD.out ▸ rdigits_bel _ u (by simp only [List.length_append, List.length_take, List.length_drop]; omega))) (by rfl) (fun u => by go_simp) ?_
    try simp only [Act.put, List.setIfInBounds_toArray, List.set_cons_zero, List.set_cons_succ]
    repeat (first
      | (refine steady_off (by rfl) ?_; try simp only [Act.put, List.setIfInBounds_toArray, List.set_cons_zero, List.set_cons_succ])
      | (refine steady_pure (v := ?_) (by rfl) ?_ ?_; rotate_left; (focus (intro u; go_simp; with_reducible rfl)); try simp only [Act.put, List.setIfInBounds_toArray, List.set_cons_zero, List.set_cons_succ]))
    refine steady_nil (fun u1 hu1 => ?_)
    clear qd0
    have HA1 := hid (HA.out.below hu1 HA.out.lt)
    have HB1 := hid (HBW.out.trans (hu1.mono HBW.out.size))
    clear hu1 HD HA HBW
    go_wp2_with fail
    refine region_steady (fun u => Below u1.heap.size u1 u) (by kernel_rfl) (by kernel_rfl) (ext_drew _) ?_
    repeat (first
      | (refine steady_off (by rfl) ?_; try simp only [Act.put, List.setIfInBounds_toArray, List.set_cons_zero, List.set_cons_succ])
      | (refine steady_pure (v := ?_) (by rfl) ?_ ?_; rotate_left; (focus (intro u; go_simp; with_reducible rfl)); try simp only [Act.put, List.setIfInBounds_toArray, List.set_cons_zero, List.set_cons_succ]))
    (refine steady_add _ _ _ _ rfl (by rfl) (by rfl) ?_ (by rfl) ?_; (focus (simp only [List.length_take, List.length_drop]; omega)); try simp only [Act.put, List.setIfInBounds_toArray, List.set_cons_zero, List.set_cons_succ])
    refine steady_call (fun u hu => bel_call hu (HE.out ▸ rdigits_bel _ u (by simp only [List.length_append, List.length_take, List.length_drop]; omega))) (by rfl) (fun u => by go_simp) ?_
    try simp only [Act.put, List.setIfInBounds_toArray, List.set_cons_zero, List.set_cons_succ]
    repeat (first
      | (refine steady_off (by rfl) ?_; try simp only [Act.put, List.setIfInBounds_toArray, List.set_cons_zero, List.set_cons_succ])
      | (refine steady_pure (v := ?_) (by rfl) ?_ ?_; rotate_left; (focus (intro u; go_simp; with_reducible rfl)); try simp only [Act.put, List.setIfInBounds_toArray, List.set_cons_zero, List.set_cons_succ]))
    refine steady_nil (fun u2 hu2 => ?_)
    have HA2 := hid (HA1.out.below hu2 HA1.out.lt)
    have HB2 := hid (HB1.out.trans (hu2.mono HB1.out.size))
    clear hu2 HE HA1 HB1
    go_wp2_with (first
      | (refine wpList_build_to rfl 56 #[] rfl [] _ rfl built_rzero ?_; change wpList _ _ _ _ (Act.put _ _ (Hv 0 (zb 16) (zb 8) 0)) _)
      | (refine wpList_store_hv rfl 56 (.tmp 2) (.tmp 63) rfl w.heap.size _ 0 0 0 0 (zb 16) (zb 8) (zb 16) (zb 8) rfl rfl HA2.out info_rhdr (zb_length _) (zb_length _) (zb_length _) (zb_length _) ?_; intro w9 hw9 hA9; have HA9 := hid hA9; have HW9 := hid hw9; clear hw9 hA9))
    exact bodyPost_ret (results_hv2 rfl _ _ _ _ _ 0 0 (zb 16) (zb 8) rfl HA9.out Tryz.underlying56 rfl info_rhdr (zb_length _) (zb_length _)) rfl ⟨by rw [HR.out]; rfl, by rw [HW9.out]; exact setRow_below HB2.out (Nat.le_refl _) _⟩
set_option maxRecDepth 100000 in
set_option maxHeartbeats 4000000 in
theorem rhread_idT (s : List UInt8) (w : World) (hs : s.length ≤ 140737488355328) (hsp : splitOk s = true) (hd : digB (pV s ++ pF s) = true) (hv : ¬ verBad s) (he : digB (pT s ++ pX s) = true) (hcx : traceC (pT s) ≠ 0) :
    Calls Tryz.prog 28 #[Sv s] w fun e w' => e = .returned (hdrOut (readH s)) ∧ Below w.heap.size w w' := by
  obtain ⟨W, hW⟩ : ∃ W, W = w.alloc (.cells #[.int .u8 0, .int .u8 0, .int .u8 0, .int .u8 0, .int .u8 0, .int .u8 0, .int .u8 0, .int .u8 0, .int .u8 0, .int .u8 0, .int .u8 0, .int .u8 0, .int .u8 0, .int .u8 0, .int .u8 0, .int .u8 0, .int .u8 0, .int .u8 0, .int .u8 0, .int .u8 0, .int .u8 0, .int .u8 0, .int .u8 0, .int .u8 0, .int .u8 0, .int .u8 0] 56) := ⟨_, rfl⟩
  have HW := hid hW
  have HA : Hid (Blk W w.heap.size 56 (hc 0 (zb 16) (zb 8) 0).toArray) := by rw [hW]; exact Blk.new w _ _
  have HBW : Hid (Below w.heap.size w W) := by rw [hW]; exact ext_alloc w _
  clear hW
  have hsp' : 55 ≤ s.length ∧ byteAt s 2 = 45 ∧ byteAt s 35 = 45 ∧ byteAt s 52 = 45 := by unfold splitOk at hsp; exact of_decide_eq_true hsp
  obtain ⟨k0, h1, h2, h3⟩ := hsp'
  have q0 : ¬ ((s.length : Int) < 55) := by omega
  have HQ0 := hid (show decide ((s.length : Int) < 55) = false from decide_eq_false q0)
  have q2 : (2 : Int) < (s.length : Int) := by omega
  have q35 : (35 : Int) < (s.length : Int) := by omega
  have q52 : (52 : Int) < (s.length : Int) := by omega
  have q55 : (55 : Int) ≤ (s.length : Int) := by omega
  have q22 : (2 : Int) ≤ (s.length : Int) := by omega
  have q35' : (35 : Int) ≤ (s.length : Int) := by omega
  have q52' : (52 : Int) ≤ (s.length : Int) := by omega
  have b1 : (byteAt s 2 != 45) = false := by simpa using h1
  have b2 : (byteAt s 35 != 45) = false := by simpa using h2
  have b3 : (byteAt s 52 != 45) = false := by simpa using h3
  clear h1 h2 h3
  have lV : (pV s).length = 2 := by unfold pV; simp; omega
  have lF : (pF s).length = 2 := by unfold pF; simp; omega
  have hdd : digB (pV s) = true ∧ digB (pF s) = true := by rw [digB_app] at hd; simpa using hd
  have HD := hid (show digB (s.take 2 ++ (s.drop 53).take 2) = true from hd)
  obtain ⟨t1, t2⟩ := two_val lV hdd.1
  have qf : (s.take 2 == [102, 102]) = false := beq_eq_false_iff_ne.2 fun h => hv (.inl (t1.2 h))
  have lT : (pT s).length = 32 := by unfold pT; simp; omega
  have lX : (pX s).length = 16 := by unfold pX; simp; omega
  have k1 := traceC_dig lT
  have k2 := spanC_dig lX
  have HE := hid (show digB ((s.drop 3).take 32 ++ (s.drop 36).take 16) = true from he)
  have he2 : digB (pT s) = true ∧ digB (pX s) = true := by rw [digB_app] at he; simpa using he
  have n3 : ¬ (traceC (pT s) = 3 ∨ spanC (pX s) = 3) := by rw [k1, k2, he2.1, he2.2]; simp
  have c1 : (traceC (pT s) != 0) = true := by simpa using hcx
  have HR := hid (show hdrOut (readH s) = .tuple #[Hv 0 (zb 16) (zb 8) 0, .int .i64 10] by
    rw [← hdrOut_bad]; unfold readH; rw [if_pos hsp, (two_ok lV).1, (two_ok lF).1, if_pos hdd, if_neg hv, if_neg n3, if_neg (fun h => hcx h.1)])
  clear he he2 n3 hcx
  by_cases hl : 55 < s.length
  · have ql : (55 : Int) < (s.length : Int) := by omega
    have qz : (s.take 2 == [48, 48]) = false := beq_eq_false_iff_ne.2 fun h => hv (.inr (.inl ⟨t2.2 h, hl⟩))
    have qd : (byteAt s 55 != 45) = false := by
      by_cases h : byteAt s 55 = 45
      · simpa using h
      · exact absurd (.inr (.inr ⟨hl, h⟩)) hv
    have qz2 : (s.take 2 != [48, 48]) = true := by rw [bne, qz]; rfl
    clear hsp hd hv hdd t1 t2 k1 k2 lT lX lV lF hl
    go_enter Tryz.func28, Tryz.ntmps28
    go_wp2_with fail
    rw [← HW.out]
    refine region_steady (fun u => Below W.heap.size W u) (by kernel_rfl) (by kernel_rfl) (ext_drew _) ?_
    have qd0 := HQ0.out
    repeat (first
      | (refine steady_off (by rfl) ?_; try simp only [Act.put, List.setIfInBounds_toArray, List.set_cons_zero, List.set_cons_succ])
      | (refine steady_pure (v := ?_) (by rfl) ?_ ?_; rotate_left; (focus (intro u; go_simp; with_reducible rfl)); try simp only [Act.put, List.setIfInBounds_toArray, List.set_cons_zero, List.set_cons_succ]))
    (refine steady_add _ _ _ _ rfl (by rfl) (by rfl) ?_ (by rfl) ?_; (focus (simp only [List.length_take, List.length_drop]; omega)); try simp only [Act.put, List.setIfInBounds_toArray, List.set_cons_zero, List.set_cons_succ])
    refine steady_call (fun u hu => bel_call hu (HD.out ▸ rdigits_bel _ u (by simp only [List.length_append, List.length_take, List.length_drop]; omega))) (by rfl) (fun u => by go_simp) ?_
    try simp only [Act.put, List.setIfInBounds_toArray, List.set_cons_zero, List.set_cons_succ]
    repeat (first
      | (refine steady_off (by rfl) ?_; try simp only [Act.put, List.setIfInBounds_toArray, List.set_cons_zero, List.set_cons_succ])
      | (refine steady_pure (v := ?_) (by rfl) ?_ ?_; rotate_left; (focus (intro u; go_simp; with_reducible rfl)); try simp only [Act.put, List.setIfInBounds_toArray, List.set_cons_zero, List.set_cons_succ]))
    refine steady_nil (fun u1 hu1 => ?_)
    clear qd0
    have HA1 := hid (HA.out.below hu1 HA.out.lt)
    have HB1 := hid (HBW.out.trans (hu1.mono HBW.out.size))
    clear hu1 HD HA HBW
    go_wp2_with fail
    refine region_steady (fun u => Below u1.heap.size u1 u) (by kernel_rfl) (by kernel_rfl) (ext_drew _) ?_
    repeat (first
      | (refine steady_off (by rfl) ?_; try simp only [Act.put, List.setIfInBounds_toArray, List.set_cons_zero, List.set_cons_succ])
      | (refine steady_pure (v := ?_) (by rfl) ?_ ?_; rotate_left; (focus (intro u; go_simp; with_reducible rfl)); try simp only [Act.put, List.setIfInBounds_toArray, List.set_cons_zero, List.set_cons_succ]))
    (refine steady_add _ _ _ _ rfl (by rfl) (by rfl) ?_ (by rfl) ?_; (focus (simp only [List.length_take, List.length_drop]; omega)); try simp only [Act.put, List.setIfInBounds_toArray, List.set_cons_zero, List.set_cons_succ])
    refine steady_call (fun u hu => bel_call hu (HE.out ▸ rdigits_bel _ u (by simp only [List.length_append, List.length_take, List.length_drop]; omega))) (by rfl) (fun u => by go_simp) ?_
    try simp only [Act.put, List.setIfInBounds_toArray, List.set_cons_zero, List.set_cons_succ]
    repeat (first
      | (refine steady_off (by rfl) ?_; try simp only [Act.put, List.setIfInBounds_toArray, List.set_cons_zero, List.set_cons_succ])
      | (refine steady_pure (v := ?_) (by rfl) ?_ ?_; rotate_left; (focus (intro u; go_simp; with_reducible rfl)); try simp only [Act.put, List.setIfInBounds_toArray, List.set_cons_zero, List.set_cons_succ]))
    refine steady_nil (fun u2 hu2 => ?_)
    have HA2 := hid (HA1.out.below hu2 HA1.out.lt)
    have HB2 := hid (HB1.out.trans (hu2.mono HB1.out.size))
    clear hu2 HE HA1 HB1
    go_wp2_with fail
    refine (rreadtrace_any (pT s) _ (by unfold pT; simp; omega)).mono ?_; rintro e w3 ⟨rfl, hb3⟩
    obtain ⟨hT0, hz3, hb3'⟩ := box1 (Below.refl (w3.alloc (.cells #[.int .u8 0, .int .u8 0, .int .u8 0, .int .u8 0, .int .u8 0, .int .u8 0, .int .u8 0, .int .u8 0, .int .u8 0, .int .u8 0, .int .u8 0, .int .u8 0, .int .u8 0, .int .u8 0, .int .u8 0, .int .u8 0] 27)).heap.size (w3.alloc (.cells #[.int .u8 0, .int .u8 0, .int .u8 0, .int .u8 0, .int .u8 0, .int .u8 0, .int .u8 0, .int .u8 0, .int .u8 0, .int .u8 0, .int .u8 0, .int .u8 0, .int .u8 0, .int .u8 0, .int .u8 0, .int .u8 0] 27)))
    have HT0 : Hid (Blk _ w3.heap.size 27 (b8s (zb 16)).toArray) := hT0
    have HA3 := hid (HA2.out.below (ext_trans hb3 hb3') HA2.out.lt)
    have HB3 := hid (HB2.out.trans ((ext_trans hb3 hb3').mono HB2.out.size))
    have HLT3 := hid (show w.heap.size < w3.heap.size from Nat.lt_of_lt_of_le HA2.out.lt hb3.size)
    clear hb3 hb3' hT0 hz3 HA2 HB2
    go_wp2_with (refine wpList_store_av rfl 27 (.tmp 4) (.tmp 68) rfl w3.heap.size 16 (traceT (pT s)) (zb 16) _ rfl rfl HT0.out info_trace (traceT_length _) (zb_length _) ?_; intro w4 hw4 hT4; have HT4 := hid hT4; have HW4 := hid hw4; clear hw4 hT4)
    have HA4 : Hid (Blk w4 w.heap.size 56 (hc 0 (zb 16) (zb 8) 0).toArray) := by rw [HW4.out]; exact setRow_far HA3.out (by have := HLT3.out; omega)
    have HB4 : Hid (Below w.heap.size w w4) := by rw [HW4.out]; exact setRow_below HB3.out (by have := HLT3.out; omega) _
    clear HA3 HB3 HT0 HW4
    refine (rreadspan_any (pX s) _ (by unfold pX; simp; omega)).mono ?_; rintro e w5 ⟨rfl, hb5⟩
    obtain ⟨hX0, hz5, hb5'⟩ := box1 (Below.refl (w5.alloc (.cells #[.int .u8 0, .int .u8 0, .int .u8 0, .int .u8 0, .int .u8 0, .int .u8 0, .int .u8 0, .int .u8 0] 29)).heap.size (w5.alloc (.cells #[.int .u8 0, .int .u8 0, .int .u8 0, .int .u8 0, .int .u8 0, .int .u8 0, .int .u8 0, .int .u8 0] 29)))
    have HX0 : Hid (Blk _ w5.heap.size 29 (b8s (zb 8)).toArray) := hX0
    have HA5 := hid (HA4.out.below (ext_trans hb5 hb5') HA4.out.lt)
    have HT5 := hid (HT4.out.below (ext_trans hb5 hb5') HT4.out.lt)
    have HB5 := hid (HB4.out.trans ((ext_trans hb5 hb5').mono HB4.out.size))
    have HLT5 := hid (show w3.heap.size < w5.heap.size from Nat.lt_of_lt_of_le HT4.out.lt hb5.size)
    clear hb5 hb5' hX0 hz5 HA4 HB4 HT4
    go_wp2_with (first
      | (refine wpList_store_av rfl 29 (.tmp 6) (.tmp 74) rfl w5.heap.size 8 (spanT (pX s)) (zb 8) _ rfl rfl HX0.out info_span (spanT_length _) (zb_length _) ?_; intro w6 hw6 hX6; have HX6 := hid hX6; have HA6 : Hid (Blk w6 w.heap.size 56 (hc 0 (zb 16) (zb 8) 0).toArray) := (by rw [hw6]; exact setRow_far HA5.out (by have := HLT3.out; have := HLT5.out; omega)); have HT6 : Hid (Blk w6 w3.heap.size 27 (b8s (traceT (pT s))).toArray) := (by rw [hw6]; exact setRow_far HT5.out (by have := HLT5.out; omega)); have HB6 : Hid (Below w.heap.size w w6) := (by rw [hw6]; exact setRow_below HB5.out (by have := HLT3.out; have := HLT5.out; omega) _); clear hw6 hX6 HA5 HB5 HT5 HX0)
      | (refine wpList_build_to rfl 56 #[] rfl [] _ rfl built_rzero ?_; change wpList _ _ _ _ (Act.put _ _ (Hv 0 (zb 16) (zb 8) 0)) _)
      | (refine wpList_store_hv rfl 56 (.tmp 2) (.tmp 82) rfl w.heap.size _ 0 0 0 0 (zb 16) (zb 8) (zb 16) (zb 8) rfl rfl HA6.out info_rhdr (zb_length _) (zb_length _) (zb_length _) (zb_length _) ?_; intro w9 hw9 hA9; have HA9 := hid hA9; have HW9 := hid hw9; clear hw9 hA9))
    exact bodyPost_ret (results_hv2 rfl _ _ _ _ _ 0 0 (zb 16) (zb 8) rfl HA9.out Tryz.underlying56 rfl info_rhdr (zb_length _) (zb_length _)) rfl ⟨by rw [HR.out]; rfl, by rw [HW9.out]; exact setRow_below HB6.out (Nat.le_refl _) _⟩
  by_cases hz : pV s = [48, 48]
  · have ql : ¬ ((55 : Int) < (s.length : Int)) := by omega
    have qz : (s.take 2 == [48, 48]) = true := by rw [show s.take 2 = pV s from rfl, hz]; rfl
    have qz2 : (s.take 2 != [48, 48]) = false := by rw [bne, qz]; rfl
    clear hsp hd hv hdd t1 t2 k1 k2 lT lX lV lF hl hz
    go_enter Tryz.func28, Tryz.ntmps28
    go_wp2_with fail
    rw [← HW.out]
    refine region_steady (fun u => Below W.heap.size W u) (by kernel_rfl) (by kernel_rfl) (ext_drew _) ?_
    have qd0 := HQ0.out
    repeat (first
      | (refine steady_off (by rfl) ?_; try simp only [Act.put, List.setIfInBounds_toArray, List.set_cons_zero, List.set_cons_succ])
      | (refine steady_pure (v := ?_) (by rfl) ?_ ?_; rotate_left; (focus (intro u; go_simp; with_reducible rfl)); try simp only [Act.put, List.setIfInBounds_toArray, List.set_cons_zero, List.set_cons_succ]))
    (refine steady_add _ _ _ _ rfl (by rfl) (by rfl) ?_ (by rfl) ?_; (focus (simp only [List.length_take, List.length_drop]; omega)); try simp only [Act.put, List.setIfInBounds_toArray, List.set_cons_zero, List.set_cons_succ])
    refine steady_call (fun u hu => bel_call hu (HD.out ▸ rdigits_bel _ u (by simp only [List.length_append, List.length_take, List.length_drop]; omega))) (by rfl) (fun u => by go_simp) ?_
    try simp only [Act.put, List.setIfInBounds_toArray, List.set_cons_zero, List.set_cons_succ]
    repeat (first
      | (refine steady_off (by rfl) ?_; try simp only [Act.put, List.setIfInBounds_toArray, List.set_cons_zero, List.set_cons_succ])
      | (refine steady_pure (v := ?_) (by rfl) ?_ ?_; rotate_left; (focus (intro u; go_simp; with_reducible rfl)); try simp only [Act.put, List.setIfInBounds_toArray, List.set_cons_zero, List.set_cons_succ]))
    refine steady_nil (fun u1 hu1 => ?_)
    clear qd0
    have HA1 := hid (HA.out.below hu1 HA.out.lt)
    have HB1 := hid (HBW.out.trans (hu1.mono HBW.out.size))
    clear hu1 HD HA HBW
    go_wp2_with fail
    refine region_steady (fun u => Below u1.heap.size u1 u) (by kernel_rfl) (by kernel_rfl) (ext_drew _) ?_
    repeat (first
      | (refine steady_off (by rfl) ?_; try simp only [Act.put, List.setIfInBounds_toArray, List.set_cons_zero, List.set_cons_succ])
      | (refine steady_pure (v := ?_) (by rfl) ?_ ?_; rotate_left; (focus (intro u; go_simp; with_reducible rfl)); try simp only [Act.put, List.setIfInBounds_toArray, List.set_cons_zero, List.set_cons_succ]))
    (refine steady_add _ _ _ _ rfl (by rfl) (by rfl) ?_ (by rfl) ?_; (focus (simp only [List.length_take, List.length_drop]; omega)); try simp only [Act.put, List.setIfInBounds_toArray, List.set_cons_zero, List.set_cons_succ])
    refine steady_call (fun u hu => bel_call hu (HE.out ▸ rdigits_bel _ u (by simp only [List.length_append, List.length_take, List.length_drop]; omega))) (by rfl) (fun u => by go_simp) ?_
    try simp only [Act.put, List.setIfInBounds_toArray, List.set_cons_zero, List.set_cons_succ]
    repeat (first
      | (refine steady_off (by rfl) ?_; try simp only [Act.put, List.setIfInBounds_toArray, List.set_cons_zero, List.set_cons_succ])
      | (refine steady_pure (v := ?_) (by rfl) ?_ ?_; rotate_left; (focus (intro u; go_simp; with_reducible rfl)); try simp only [Act.put, List.setIfInBounds_toArray, List.set_cons_zero, List.set_cons_succ]))
    refine steady_nil (fun u2 hu2 => ?_)
    have HA2 := hid (HA1.out.below hu2 HA1.out.lt)
    have HB2 := hid (HB1.out.trans (hu2.mono HB1.out.size))
    clear hu2 HE HA1 HB1
    go_wp2_with fail
    refine (rreadtrace_any (pT s) _ (by unfold pT; simp; omega)).mono ?_; rintro e w3 ⟨rfl, hb3⟩
    obtain ⟨hT0, hz3, hb3'⟩ := box1 (Below.refl (w3.alloc (.cells #[.int .u8 0, .int .u8 0, .int .u8 0, .int .u8 0, .int .u8 0, .int .u8 0, .int .u8 0, .int .u8 0, .int .u8 0, .int .u8 0, .int .u8 0, .int .u8 0, .int .u8 0, .int .u8 0, .int .u8 0, .int .u8 0] 27)).heap.size (w3.alloc (.cells #[.int .u8 0, .int .u8 0, .int .u8 0, .int .u8 0, .int .u8 0, .int .u8 0, .int .u8 0, .int .u8 0, .int .u8 0, .int .u8 0, .int .u8 0, .int .u8 0, .int .u8 0, .int .u8 0, .int .u8 0, .int .u8 0] 27)))
    have HT0 : Hid (Blk _ w3.heap.size 27 (b8s (zb 16)).toArray) := hT0
    have HA3 := hid (HA2.out.below (ext_trans hb3 hb3') HA2.out.lt)
    have HB3 := hid (HB2.out.trans ((ext_trans hb3 hb3').mono HB2.out.size))
    have HLT3 := hid (show w.heap.size < w3.heap.size from Nat.lt_of_lt_of_le HA2.out.lt hb3.size)
    clear hb3 hb3' hT0 hz3 HA2 HB2
    go_wp2_with (refine wpList_store_av rfl 27 (.tmp 4) (.tmp 68) rfl w3.heap.size 16 (traceT (pT s)) (zb 16) _ rfl rfl HT0.out info_trace (traceT_length _) (zb_length _) ?_; intro w4 hw4 hT4; have HT4 := hid hT4; have HW4 := hid hw4; clear hw4 hT4)
    have HA4 : Hid (Blk w4 w.heap.size 56 (hc 0 (zb 16) (zb 8) 0).toArray) := by rw [HW4.out]; exact setRow_far HA3.out (by have := HLT3.out; omega)
    have HB4 : Hid (Below w.heap.size w w4) := by rw [HW4.out]; exact setRow_below HB3.out (by have := HLT3.out; omega) _
    clear HA3 HB3 HT0 HW4
    refine (rreadspan_any (pX s) _ (by unfold pX; simp; omega)).mono ?_; rintro e w5 ⟨rfl, hb5⟩
    obtain ⟨hX0, hz5, hb5'⟩ := box1 (Below.refl (w5.alloc (.cells #[.int .u8 0, .int .u8 0, .int .u8 0, .int .u8 0, .int .u8 0, .int .u8 0, .int .u8 0, .int .u8 0] 29)).heap.size (w5.alloc (.cells #[.int .u8 0, .int .u8 0, .int .u8 0, .int .u8 0, .int .u8 0, .int .u8 0, .int .u8 0, .int .u8 0] 29)))
    have HX0 : Hid (Blk _ w5.heap.size 29 (b8s (zb 8)).toArray) := hX0
    have HA5 := hid (HA4.out.below (ext_trans hb5 hb5') HA4.out.lt)
    have HT5 := hid (HT4.out.below (ext_trans hb5 hb5') HT4.out.lt)
    have HB5 := hid (HB4.out.trans ((ext_trans hb5 hb5').mono HB4.out.size))
    have HLT5 := hid (show w3.heap.size < w5.heap.size from Nat.lt_of_lt_of_le HT4.out.lt hb5.size)
    clear hb5 hb5' hX0 hz5 HA4 HB4 HT4
    go_wp2_with (first
      | (refine wpList_store_av rfl 29 (.tmp 6) (.tmp 74) rfl w5.heap.size 8 (spanT (pX s)) (zb 8) _ rfl rfl HX0.out info_span (spanT_length _) (zb_length _) ?_; intro w6 hw6 hX6; have HX6 := hid hX6; have HA6 : Hid (Blk w6 w.heap.size 56 (hc 0 (zb 16) (zb 8) 0).toArray) := (by rw [hw6]; exact setRow_far HA5.out (by have := HLT3.out; have := HLT5.out; omega)); have HT6 : Hid (Blk w6 w3.heap.size 27 (b8s (traceT (pT s))).toArray) := (by rw [hw6]; exact setRow_far HT5.out (by have := HLT5.out; omega)); have HB6 : Hid (Below w.heap.size w w6) := (by rw [hw6]; exact setRow_below HB5.out (by have := HLT3.out; have := HLT5.out; omega) _); clear hw6 hX6 HA5 HB5 HT5 HX0)
      | (refine wpList_build_to rfl 56 #[] rfl [] _ rfl built_rzero ?_; change wpList _ _ _ _ (Act.put _ _ (Hv 0 (zb 16) (zb 8) 0)) _)
      | (refine wpList_store_hv rfl 56 (.tmp 2) (.tmp 82) rfl w.heap.size _ 0 0 0 0 (zb 16) (zb 8) (zb 16) (zb 8) rfl rfl HA6.out info_rhdr (zb_length _) (zb_length _) (zb_length _) (zb_length _) ?_; intro w9 hw9 hA9; have HA9 := hid hA9; have HW9 := hid hw9; clear hw9 hA9))
    exact bodyPost_ret (results_hv2 rfl _ _ _ _ _ 0 0 (zb 16) (zb 8) rfl HA9.out Tryz.underlying56 rfl info_rhdr (zb_length _) (zb_length _)) rfl ⟨by rw [HR.out]; rfl, by rw [HW9.out]; exact setRow_below HB6.out (Nat.le_refl _) _⟩
  · have ql : ¬ ((55 : Int) < (s.length : Int)) := by omega
    have qz : (s.take 2 == [48, 48]) = false := beq_eq_false_iff_ne.2 hz
    have qz2 : (s.take 2 != [48, 48]) = true := by rw [bne, qz]; rfl
    clear hsp hd hv hdd t1 t2 k1 k2 lT lX lV lF hl hz
    go_enter Tryz.func28, Tryz.ntmps28
    go_wp2_with fail
    rw [← HW.out]
    refine region_steady (fun u => Below W.heap.size W u) (by kernel_rfl) (by kernel_rfl) (ext_drew _) ?_
    have qd0 := HQ0.out
    repeat (first
      | (refine steady_off (by rfl) ?_; try simp only [Act.put, List.setIfInBounds_toArray, List.set_cons_zero, List.set_cons_succ])
      | (refine steady_pure (v := ?_) (by rfl) ?_ ?_; rotate_left; (focus (intro u; go_simp; with_reducible rfl)); try simp only [Act.put, List.setIfInBounds_toArray, List.set_cons_zero, List.set_cons_succ]))
    (refine steady_add _ _ _ _ rfl (by rfl) (by rfl) ?_ (by rfl) ?_; (focus (simp only [List.length_take, List.length_drop]; omega)); try simp only [Act.put, List.setIfInBounds_toArray, List.set_cons_zero, List.set_cons_succ])
    refine steady_call (fun u hu => bel_call hu (HD.out ▸ rdigits_bel _ u (by simp only [List.length_append, List.length_take, List.length_drop]; omega))) (by rfl) (fun u => by go_simp) ?_
    try simp only [Act.put, List.setIfInBounds_toArray, List.set_cons_zero, List.set_cons_succ]
    repeat (first
      | (refine steady_off (by rfl) ?_; try simp only [Act.put, List.setIfInBounds_toArray, List.set_cons_zero, List.set_cons_succ])
      | (refine steady_pure (v := ?_) (by rfl) ?_ ?_; rotate_left; (focus (intro u; go_simp; with_reducible rfl)); try simp only [Act.put, List.setIfInBounds_toArray, List.set_cons_zero, List.set_cons_succ]))
    refine steady_nil (fun u1 hu1 => ?_)
    clear qd0
    have HA1 := hid (HA.out.below hu1 HA.out.lt)
    have HB1 := hid (HBW.out.trans (hu1.mono HBW.out.size))
    clear hu1 HD HA HBW
    go_wp2_with fail
    refine region_steady (fun u => Below u1.heap.size u1 u) (by kernel_rfl) (by kernel_rfl) (ext_drew _) ?_
    repeat (first
      | (refine steady_off (by rfl) ?_; try simp only [Act.put, List.setIfInBounds_toArray, List.set_cons_zero, List.set_cons_succ])
      | (refine steady_pure (v := ?_) (by rfl) ?_ ?_; rotate_left; (focus (intro u; go_simp; with_reducible rfl)); try simp only [Act.put, List.setIfInBounds_toArray, List.set_cons_zero, List.set_cons_succ]))
    (refine steady_add _ _ _ _ rfl (by rfl) (by rfl) ?_ (by rfl) ?_; (focus (simp only [List.length_take, List.length_drop]; omega)); try simp only [Act.put, List.setIfInBounds_toArray, List.set_cons_zero, List.set_cons_succ])
    refine steady_call (fun u hu => bel_call hu (HE.out ▸ rdigits_bel _ u (by simp only [List.length_append, List.length_take, List.length_drop]; omega))) (by rfl) (fun u => by go_simp) ?_
    try simp only [Act.put, List.setIfInBounds_toArray, List.set_cons_zero, List.set_cons_succ]
    repeat (first
      | (refine steady_off (by rfl) ?_; try simp only [Act.put, List.setIfInBounds_toArray, List.set_cons_zero, List.set_cons_succ])
      | (refine steady_pure (v := ?_) (by rfl) ?_ ?_; rotate_left; (focus (intro u; go_simp; with_reducible rfl)); try simp only [Act.put, List.setIfInBounds_toArray, List.set_cons_zero, List.set_cons_succ]))
    refine steady_nil (fun u2 hu2 => ?_)
    have HA2 := hid (HA1.out.below hu2 HA1.out.lt)
    have HB2 := hid (HB1.out.trans (hu2.mono HB1.out.size))
    clear hu2 HE HA1 HB1
    go_wp2_with fail
    refine (rreadtrace_any (pT s) _ (by unfold pT; simp; omega)).mono ?_; rintro e w3 ⟨rfl, hb3⟩
    obtain ⟨hT0, hz3, hb3'⟩ := box1 (Below.refl (w3.alloc (.cells #[.int .u8 0, .int .u8 0, .int .u8 0, .int .u8 0, .int .u8 0, .int .u8 0, .int .u8 0, .int .u8 0, .int .u8 0, .int .u8 0, .int .u8 0, .int .u8 0, .int .u8 0, .int .u8 0, .int .u8 0, .int .u8 0] 27)).heap.size (w3.alloc (.cells #[.int .u8 0, .int .u8 0, .int .u8 0, .int .u8 0, .int .u8 0, .int .u8 0, .int .u8 0, .int .u8 0, .int .u8 0, .int .u8 0, .int .u8 0, .int .u8 0, .int .u8 0, .int .u8 0, .int .u8 0, .int .u8 0] 27)))
    have HT0 : Hid (Blk _ w3.heap.size 27 (b8s (zb 16)).toArray) := hT0
    have HA3 := hid (HA2.out.below (ext_trans hb3 hb3') HA2.out.lt)
    have HB3 := hid (HB2.out.trans ((ext_trans hb3 hb3').mono HB2.out.size))
    have HLT3 := hid (show w.heap.size < w3.heap.size from Nat.lt_of_lt_of_le HA2.out.lt hb3.size)
    clear hb3 hb3' hT0 hz3 HA2 HB2
    go_wp2_with (refine wpList_store_av rfl 27 (.tmp 4) (.tmp 68) rfl w3.heap.size 16 (traceT (pT s)) (zb 16) _ rfl rfl HT0.out info_trace (traceT_length _) (zb_length _) ?_; intro w4 hw4 hT4; have HT4 := hid hT4; have HW4 := hid hw4; clear hw4 hT4)
    have HA4 : Hid (Blk w4 w.heap.size 56 (hc 0 (zb 16) (zb 8) 0).toArray) := by rw [HW4.out]; exact setRow_far HA3.out (by have := HLT3.out; omega)
    have HB4 : Hid (Below w.heap.size w w4) := by rw [HW4.out]; exact setRow_below HB3.out (by have := HLT3.out; omega) _
    clear HA3 HB3 HT0 HW4
    refine (rreadspan_any (pX s) _ (by unfold pX; simp; omega)).mono ?_; rintro e w5 ⟨rfl, hb5⟩
    obtain ⟨hX0, hz5, hb5'⟩ := box1 (Below.refl (w5.alloc (.cells #[.int .u8 0, .int .u8 0, .int .u8 0, .int .u8 0, .int .u8 0, .int .u8 0, .int .u8 0, .int .u8 0] 29)).heap.size (w5.alloc (.cells #[.int .u8 0, .int .u8 0, .int .u8 0, .int .u8 0, .int .u8 0, .int .u8 0, .int .u8 0, .int .u8 0] 29)))
    have HX0 : Hid (Blk _ w5.heap.size 29 (b8s (zb 8)).toArray) := hX0
    have HA5 := hid (HA4.out.below (ext_trans hb5 hb5') HA4.out.lt)
    have HT5 := hid (HT4.out.below (ext_trans hb5 hb5') HT4.out.lt)
    have HB5 := hid (HB4.out.trans ((ext_trans hb5 hb5').mono HB4.out.size))
    have HLT5 := hid (show w3.heap.size < w5.heap.size from Nat.lt_of_lt_of_le HT4.out.lt hb5.size)
    clear hb5 hb5' hX0 hz5 HA4 HB4 HT4
    go_wp2_with (first
      | (refine wpList_store_av rfl 29 (.tmp 6) (.tmp 74) rfl w5.heap.size 8 (spanT (pX s)) (zb 8) _ rfl rfl HX0.out info_span (spanT_length _) (zb_length _) ?_; intro w6 hw6 hX6; have HX6 := hid hX6; have HA6 : Hid (Blk w6 w.heap.size 56 (hc 0 (zb 16) (zb 8) 0).toArray) := (by rw [hw6]; exact setRow_far HA5.out (by have := HLT3.out; have := HLT5.out; omega)); have HT6 : Hid (Blk w6 w3.heap.size 27 (b8s (traceT (pT s))).toArray) := (by rw [hw6]; exact setRow_far HT5.out (by have := HLT5.out; omega)); have HB6 : Hid (Below w.heap.size w w6) := (by rw [hw6]; exact setRow_below HB5.out (by have := HLT3.out; have := HLT5.out; omega) _); clear hw6 hX6 HA5 HB5 HT5 HX0)
      | (refine wpList_build_to rfl 56 #[] rfl [] _ rfl built_rzero ?_; change wpList _ _ _ _ (Act.put _ _ (Hv 0 (zb 16) (zb 8) 0)) _)
      | (refine wpList_store_hv rfl 56 (.tmp 2) (.tmp 82) rfl w.heap.size _ 0 0 0 0 (zb 16) (zb 8) (zb 16) (zb 8) rfl rfl HA6.out info_rhdr (zb_length _) (zb_length _) (zb_length _) (zb_length _) ?_; intro w9 hw9 hA9; have HA9 := hid hA9; have HW9 := hid hw9; clear hw9 hA9))
    exact bodyPost_ret (results_hv2 rfl _ _ _ _ _ 0 0 (zb 16) (zb 8) rfl HA9.out Tryz.underlying56 rfl info_rhdr (zb_length _) (zb_length _)) rfl ⟨by rw [HR.out]; rfl, by rw [HW9.out]; exact setRow_below HB6.out (Nat.le_refl _) _⟩
set_option maxRecDepth 100000 in
set_option maxHeartbeats 4000000 in
theorem rhread_idX (s : List UInt8) (w : World) (hs : s.length ≤ 140737488355328) (hsp : splitOk s = true) (hd : digB (pV s ++ pF s) = true) (hv : ¬ verBad s) (he : digB (pT s ++ pX s) = true) (hc0 : traceC (pT s) = 0) (hcx : spanC (pX s) ≠ 0) :
    Calls Tryz.prog 28 #[Sv s] w fun e w' => e = .returned (hdrOut (readH s)) ∧ Below w.heap.size w w' := by
  obtain ⟨W, hW⟩ : ∃ W, W = w.alloc (.cells #[.int .u8 0, .int .u8 0, .int .u8 0, .int .u8 0, .int .u8 0, .int .u8 0, .int .u8 0, .int .u8 0, .int .u8 0, .int .u8 0, .int .u8 0, .int .u8 0, .int .u8 0, .int .u8 0, .int .u8 0, .int .u8 0, .int .u8 0, .int .u8 0, .int .u8 0, .int .u8 0, .int .u8 0, .int .u8 0, .int .u8 0, .int .u8 0, .int .u8 0, .int .u8 0] 56) := ⟨_, rfl⟩
  have HW := hid hW
  have HA : Hid (Blk W w.heap.size 56 (hc 0 (zb 16) (zb 8) 0).toArray) := by rw [hW]; exact Blk.new w _ _
  have HBW : Hid (Below w.heap.size w W) := by rw [hW]; exact ext_alloc w _
  clear hW
  have hsp' : 55 ≤ s.length ∧ byteAt s 2 = 45 ∧ byteAt s 35 = 45 ∧ byteAt s 52 = 45 := by unfold splitOk at hsp; exact of_decide_eq_true hsp
  obtain ⟨k0, h1, h2, h3⟩ := hsp'
  have q0 : ¬ ((s.length : Int) < 55) := by omega
  have HQ0 := hid (show decide ((s.length : Int) < 55) = false from decide_eq_false q0)
  have q2 : (2 : Int) < (s.length : Int) := by omega
  have q35 : (35 : Int) < (s.length : Int) := by omega
  have q52 : (52 : Int) < (s.length : Int) := by omega
  have q55 : (55 : Int) ≤ (s.length : Int) := by omega
  have q22 : (2 : Int) ≤ (s.length : Int) := by omega
  have q35' : (35 : Int) ≤ (s.length : Int) := by omega
  have q52' : (52 : Int) ≤ (s.length : Int) := by omega
  have b1 : (byteAt s 2 != 45) = false := by simpa using h1
  have b2 : (byteAt s 35 != 45) = false := by simpa using h2
  have b3 : (byteAt s 52 != 45) = false := by simpa using h3
  clear h1 h2 h3
  have lV : (pV s).length = 2 := by unfold pV; simp; omega
  have lF : (pF s).length = 2 := by unfold pF; simp; omega
  have hdd : digB (pV s) = true ∧ digB (pF s) = true := by rw [digB_app] at hd; simpa using hd
  have HD := hid (show digB (s.take 2 ++ (s.drop 53).take 2) = true from hd)
  obtain ⟨t1, t2⟩ := two_val lV hdd.1
  have qf : (s.take 2 == [102, 102]) = false := beq_eq_false_iff_ne.2 fun h => hv (.inl (t1.2 h))
  have lT : (pT s).length = 32 := by unfold pT; simp; omega
  have lX : (pX s).length = 16 := by unfold pX; simp; omega
  have k1 := traceC_dig lT
  have k2 := spanC_dig lX
  have HE := hid (show digB ((s.drop 3).take 32 ++ (s.drop 36).take 16) = true from he)
  have he2 : digB (pT s) = true ∧ digB (pX s) = true := by rw [digB_app] at he; simpa using he
  have n3 : ¬ (traceC (pT s) = 3 ∨ spanC (pX s) = 3) := by rw [k1, k2, he2.1, he2.2]; simp
  have c1 : (traceC (pT s) != 0) = false := by rw [hc0]; rfl
  have c2 : (spanC (pX s) != 0) = true := by simpa using hcx
  have HR := hid (show hdrOut (readH s) = .tuple #[Hv 0 (zb 16) (zb 8) 0, .int .i64 10] by
    rw [← hdrOut_bad]; unfold readH; rw [if_pos hsp, (two_ok lV).1, (two_ok lF).1, if_pos hdd, if_neg hv, if_neg n3, if_neg (fun h => hcx h.2)])
  clear he he2 n3 hcx hc0
  by_cases hl : 55 < s.length
  · have ql : (55 : Int) < (s.length : Int) := by omega
    have qz : (s.take 2 == [48, 48]) = false := beq_eq_false_iff_ne.2 fun h => hv (.inr (.inl ⟨t2.2 h, hl⟩))
    have qd : (byteAt s 55 != 45) = false := by
      by_cases h : byteAt s 55 = 45
      · simpa using h
      · exact absurd (.inr (.inr ⟨hl, h⟩)) hv
    have qz2 : (s.take 2 != [48, 48]) = true := by rw [bne, qz]; rfl
    clear hsp hd hv hdd t1 t2 k1 k2 lT lX lV lF hl
    go_enter Tryz.func28, Tryz.ntmps28
    go_wp2_with fail
    rw [← HW.out]
    refine region_steady (fun u => Below W.heap.size W u) (by kernel_rfl) (by kernel_rfl) (ext_drew _) ?_
    have qd0 := HQ0.out
    repeat (first
      | (refine steady_off (by rfl) ?_; try simp only [Act.put, List.setIfInBounds_toArray, List.set_cons_zero, List.set_cons_succ])
      | (refine steady_pure (v := ?_) (by rfl) ?_ ?_; rotate_left; (focus (intro u; go_simp; with_reducible rfl)); try simp only [Act.put, List.setIfInBounds_toArray, List.set_cons_zero, List.set_cons_succ]))
    (refine steady_add _ _ _ _ rfl (by rfl) (by rfl) ?_ (by rfl) ?_; (focus (simp only [List.length_take, List.length_drop]; omega)); try simp only [Act.put, List.setIfInBounds_toArray, List.set_cons_zero, List.set_cons_succ])
    refine steady_call (fun u hu => bel_call hu (HD.out ▸ rdigits_bel _ u (by simp only [List.length_append, List.length_take, List.length_drop]; omega))) (by rfl) (fun u => by go_simp) ?_
    try simp only [Act.put, List.setIfInBounds_toArray, List.set_cons_zero, List.set_cons_succ]
    repeat (first
      | (refine steady_off (by rfl) ?_; try simp only [Act.put, List.setIfInBounds_toArray, List.set_cons_zero, List.set_cons_succ])
      | (refine steady_pure (v := ?_) (by rfl) ?_ ?_; rotate_left; (focus (intro u; go_simp; with_reducible rfl)); try simp only [Act.put, List.setIfInBounds_toArray, List.set_cons_zero, List.set_cons_succ]))
    refine steady_nil (fun u1 hu1 => ?_)
    clear qd0
    have HA1 := hid (HA.out.below hu1 HA.out.lt)
    have HB1 := hid (HBW.out.trans (hu1.mono HBW.out.size))
    clear hu1 HD HA HBW
    go_wp2_with fail
    refine region_steady (fun u => Below u1.heap.size u1 u) (by kernel_rfl) (by kernel_rfl) (ext_drew _) ?_
    repeat (first
      | (refine steady_off (by rfl) ?_; try simp only [Act.put, List.setIfInBounds_toArray, List.set_cons_zero, List.set_cons_succ])
      | (refine steady_pure (v := ?_) (by rfl) ?_ ?_; rotate_left; (focus (intro u; go_simp; with_reducible rfl)); try simp only [Act.put, List.setIfInBounds_toArray, List.set_cons_zero, List.set_cons_succ]))
    (refine steady_add _ _ _ _ rfl (by rfl) (by rfl) ?_ (by rfl) ?_; (focus (simp only [List.length_take, List.length_drop]; omega)); try simp only [Act.put, List.setIfInBounds_toArray, List.set_cons_zero, List.set_cons_succ])
    refine steady_call (fun u hu => bel_call hu (HE.out ▸ rdigits_bel _ u (by simp only [List.length_append, List.length_take, List.length_drop]; omega))) (by rfl) (fun u => by go_simp) ?_
    try simp only [Act.put, List.setIfInBounds_toArray, List.set_cons_zero, List.set_cons_succ]
    repeat (first
      | (refine steady_off (by rfl) ?_; try simp only [Act.put, List.setIfInBounds_toArray, List.set_cons_zero, List.set_cons_succ])
      | (refine steady_pure (v := ?_) (by rfl) ?_ ?_; rotate_left; (focus (intro u; go_simp; with_reducible rfl)); try simp only [Act.put, List.setIfInBounds_toArray, List.set_cons_zero, List.set_cons_succ]))
    refine steady_nil (fun u2 hu2 => ?_)
    have HA2 := hid (HA1.out.below hu2 HA1.out.lt)
    have HB2 := hid (HB1.out.trans (hu2.mono HB1.out.size))
    clear hu2 HE HA1 HB1
    go_wp2_with fail
    refine (rreadtrace_any (pT s) _ (by unfold pT; simp; omega)).mono ?_; rintro e w3 ⟨rfl, hb3⟩
    obtain ⟨hT0, hz3, hb3'⟩ := box1 (Below.refl (w3.alloc (.cells #[.int .u8 0, .int .u8 0, .int .u8 0, .int .u8 0, .int .u8 0, .int .u8 0, .int .u8 0, .int .u8 0, .int .u8 0, .int .u8 0, .int .u8 0, .int .u8 0, .int .u8 0, .int .u8 0, .int .u8 0, .int .u8 0] 27)).heap.size (w3.alloc (.cells #[.int .u8 0, .int .u8 0, .int .u8 0, .int .u8 0, .int .u8 0, .int .u8 0, .int .u8 0, .int .u8 0, .int .u8 0, .int .u8 0, .int .u8 0, .int .u8 0, .int .u8 0, .int .u8 0, .int .u8 0, .int .u8 0] 27)))
    have HT0 : Hid (Blk _ w3.heap.size 27 (b8s (zb 16)).toArray) := hT0
    have HA3 := hid (HA2.out.below (ext_trans hb3 hb3') HA2.out.lt)
    have HB3 := hid (HB2.out.trans ((ext_trans hb3 hb3').mono HB2.out.size))
    have HLT3 := hid (show w.heap.size < w3.heap.size from Nat.lt_of_lt_of_le HA2.out.lt hb3.size)
    clear hb3 hb3' hT0 hz3 HA2 HB2
    go_wp2_with (refine wpList_store_av rfl 27 (.tmp 4) (.tmp 68) rfl w3.heap.size 16 (traceT (pT s)) (zb 16) _ rfl rfl HT0.out info_trace (traceT_length _) (zb_length _) ?_; intro w4 hw4 hT4; have HT4 := hid hT4; have HW4 := hid hw4; clear hw4 hT4)
    have HA4 : Hid (Blk w4 w.heap.size 56 (hc 0 (zb 16) (zb 8) 0).toArray) := by rw [HW4.out]; exact setRow_far HA3.out (by have := HLT3.out; omega)
    have HB4 : Hid (Below w.heap.size w w4) := by rw [HW4.out]; exact setRow_below HB3.out (by have := HLT3.out; omega) _
    clear HA3 HB3 HT0 HW4
    refine (rreadspan_any (pX s) _ (by unfold pX; simp; omega)).mono ?_; rintro e w5 ⟨rfl, hb5⟩
    obtain ⟨hX0, hz5, hb5'⟩ := box1 (Below.refl (w5.alloc (.cells #[.int .u8 0, .int .u8 0, .int .u8 0, .int .u8 0, .int .u8 0, .int .u8 0, .int .u8 0, .int .u8 0] 29)).heap.size (w5.alloc (.cells #[.int .u8 0, .int .u8 0, .int .u8 0, .int .u8 0, .int .u8 0, .int .u8 0, .int .u8 0, .int .u8 0] 29)))
    have HX0 : Hid (Blk _ w5.heap.size 29 (b8s (zb 8)).toArray) := hX0
    have HA5 := hid (HA4.out.below (ext_trans hb5 hb5') HA4.out.lt)
    have HT5 := hid (HT4.out.below (ext_trans hb5 hb5') HT4.out.lt)
    have HB5 := hid (HB4.out.trans ((ext_trans hb5 hb5').mono HB4.out.size))
    have HLT5 := hid (show w3.heap.size < w5.heap.size from Nat.lt_of_lt_of_le HT4.out.lt hb5.size)
    clear hb5 hb5' hX0 hz5 HA4 HB4 HT4
    go_wp2_with (first
      | (refine wpList_store_av rfl 29 (.tmp 6) (.tmp 74) rfl w5.heap.size 8 (spanT (pX s)) (zb 8) _ rfl rfl HX0.out info_span (spanT_length _) (zb_length _) ?_; intro w6 hw6 hX6; have HX6 := hid hX6; have HA6 : Hid (Blk w6 w.heap.size 56 (hc 0 (zb 16) (zb 8) 0).toArray) := (by rw [hw6]; exact setRow_far HA5.out (by have := HLT3.out; have := HLT5.out; omega)); have HT6 : Hid (Blk w6 w3.heap.size 27 (b8s (traceT (pT s))).toArray) := (by rw [hw6]; exact setRow_far HT5.out (by have := HLT5.out; omega)); have HB6 : Hid (Below w.heap.size w w6) := (by rw [hw6]; exact setRow_below HB5.out (by have := HLT3.out; have := HLT5.out; omega) _); clear hw6 hX6 HA5 HB5 HT5 HX0)
      | (refine wpList_build_to rfl 56 #[] rfl [] _ rfl built_rzero ?_; change wpList _ _ _ _ (Act.put _ _ (Hv 0 (zb 16) (zb 8) 0)) _)
      | (refine wpList_store_hv rfl 56 (.tmp 2) (.tmp 82) rfl w.heap.size _ 0 0 0 0 (zb 16) (zb 8) (zb 16) (zb 8) rfl rfl HA6.out info_rhdr (zb_length _) (zb_length _) (zb_length _) (zb_length _) ?_; intro w9 hw9 hA9; have HA9 := hid hA9; have HW9 := hid hw9; clear hw9 hA9))
    exact bodyPost_ret (results_hv2 rfl _ _ _ _ _ 0 0 (zb 16) (zb 8) rfl HA9.out Tryz.underlying56 rfl info_rhdr (zb_length _) (zb_length _)) rfl ⟨by rw [HR.out]; rfl, by rw [HW9.out]; exact setRow_below HB6.out (Nat.le_refl _) _⟩
  by_cases hz : pV s = [48, 48]
  · have ql : ¬ ((55 : Int) < (s.length : Int)) := by omega
    have qz : (s.take 2 == [48, 48]) = true := by rw [show s.take 2 = pV s from rfl, hz]; rfl
    have qz2 : (s.take 2 != [48, 48]) = false := by rw [bne, qz]; rfl
    clear hsp hd hv hdd t1 t2 k1 k2 lT lX lV lF hl hz
    go_enter Tryz.func28, Tryz.ntmps28
    go_wp2_with fail
    rw [← HW.out]
    refine region_steady (fun u => Below W.heap.size W u) (by kernel_rfl) (by kernel_rfl) (ext_drew _) ?_
    have qd0 := HQ0.out
    repeat (first
      | (refine steady_off (by rfl) ?_; try simp only [Act.put, List.setIfInBounds_toArray, List.set_cons_zero, List.set_cons_succ])
      | (refine steady_pure (v := ?_) (by rfl) ?_ ?_; rotate_left; (focus (intro u; go_simp; with_reducible rfl)); try simp only [Act.put, List.setIfInBounds_toArray, List.set_cons_zero, List.set_cons_succ]))
    (refine steady_add _ _ _ _ rfl (by rfl) (by rfl) ?_ (by rfl) ?_; (focus (simp only [List.length_take, List.length_drop]; omega)); try simp only [Act.put, List.setIfInBounds_toArray, List.set_cons_zero, List.set_cons_succ])
    refine steady_call (fun u hu => bel_call hu (HD.out ▸ rdigits_bel _ u (by simp only [List.length_append, List.length_take, List.length_drop]; omega))) (by rfl) (fun u => by go_simp) ?_
    try simp only [Act.put, List.setIfInBounds_toArray, List.set_cons_zero, List.set_cons_succ]
    repeat (first
      | (refine steady_off (by rfl) ?_; try simp only [Act.put, List.setIfInBounds_toArray, List.set_cons_zero, List.set_cons_succ])
      | (refine steady_pure (v := ?_) (by rfl) ?_ ?_; rotate_left; (focus (intro u; go_simp; with_reducible rfl)); try simp only [Act.put, List.setIfInBounds_toArray, List.set_cons_zero, List.set_cons_succ]))
    refine steady_nil (fun u1 hu1 => ?_)
    clear qd0
    have HA1 := hid (HA.out.below hu1 HA.out.lt)
    have HB1 := hid (HBW.out.trans (hu1.mono HBW.out.size))
    clear hu1 HD HA HBW
    go_wp2_with fail
    refine region_steady (fun u => Below u1.heap.size u1 u) (by kernel_rfl) (by kernel_rfl) (ext_drew _) ?_
    repeat (first
      | (refine steady_off (by rfl) ?_; try simp only [Act.put, List.setIfInBounds_toArray, List.set_cons_zero, List.set_cons_succ])
      | (refine steady_pure (v := ?_) (by rfl) ?_ ?_; rotate_left; (focus (intro u; go_simp; with_reducible rfl)); try simp only [Act.put, List.setIfInBounds_toArray, List.set_cons_zero, List.set_cons_succ]))
    (refine steady_add _ _ _ _ rfl (by rfl) (by rfl) ?_ (by rfl) ?_; (focus (simp only [List.length_take, List.length_drop]; omega)); try simp only [Act.put, List.setIfInBounds_toArray, List.set_cons_zero, List.set_cons_succ])
    refine steady_call (fun u hu => bel_call hu (HE.out ▸ rdigits_bel _ u (by simp only [List.length_append, List.length_take, List.length_drop]; omega))) (by rfl) (fun u => by go_simp) ?_
    try simp only [Act.put, List.setIfInBounds_toArray, List.set_cons_zero, List.set_cons_succ]
    repeat (first
      | (refine steady_off (by rfl) ?_; try simp only [Act.put, List.setIfInBounds_toArray, List.set_cons_zero, List.set_cons_succ])
      | (refine steady_pure (v := ?_) (by rfl) ?_ ?_; rotate_left; (focus (intro u; go_simp; with_reducible rfl)); try simp only [Act.put, List.setIfInBounds_toArray, List.set_cons_zero, List.set_cons_succ]))
    refine steady_nil (fun u2 hu2 => ?_)
    have HA2 := hid (HA1.out.below hu2 HA1.out.lt)
    have HB2 := hid (HB1.out.trans (hu2.mono HB1.out.size))
    clear hu2 HE HA1 HB1
    go_wp2_with fail
    refine (rreadtrace_any (pT s) _ (by unfold pT; simp; omega)).mono ?_; rintro e w3 ⟨rfl, hb3⟩
    obtain ⟨hT0, hz3, hb3'⟩ := box1 (Below.refl (w3.alloc (.cells #[.int .u8 0, .int .u8 0, .int .u8 0, .int .u8 0, .int .u8 0, .int .u8 0, .int .u8 0, .int .u8 0, .int .u8 0, .int .u8 0, .int .u8 0, .int .u8 0, .int .u8 0, .int .u8 0, .int .u8 0, .int .u8 0] 27)).heap.size (w3.alloc (.cells #[.int .u8 0, .int .u8 0, .int .u8 0, .int .u8 0, .int .u8 0, .int .u8 0, .int .u8 0, .int .u8 0, .int .u8 0, .int .u8 0, .int .u8 0, .int .u8 0, .int .u8 0, .int .u8 0, .int .u8 0, .int .u8 0] 27)))
    have HT0 : Hid (Blk _ w3.heap.size 27 (b8s (zb 16)).toArray) := hT0
    have HA3 := hid (HA2.out.below (ext_trans hb3 hb3') HA2.out.lt)
    have HB3 := hid (HB2.out.trans ((ext_trans hb3 hb3').mono HB2.out.size))
    have HLT3 := hid (show w.heap.size < w3.heap.size from Nat.lt_of_lt_of_le HA2.out.lt hb3.size)
    clear hb3 hb3' hT0 hz3 HA2 HB2
    go_wp2_with (refine wpList_store_av rfl 27 (.tmp 4) (.tmp 68) rfl w3.heap.size 16 (traceT (pT s)) (zb 16) _ rfl rfl HT0.out info_trace (traceT_length _) (zb_length _) ?_; intro w4 hw4 hT4; have HT4 := hid hT4; have HW4 := hid hw4; clear hw4 hT4)
    have HA4 : Hid (Blk w4 w.heap.size 56 (hc 0 (zb 16) (zb 8) 0).toArray) := by rw [HW4.out]; exact setRow_far HA3.out (by have := HLT3.out; omega)
    have HB4 : Hid (Below w.heap.size w w4) := by rw [HW4.out]; exact setRow_below HB3.out (by have := HLT3.out; omega) _
    clear HA3 HB3 HT0 HW4
    refine (rreadspan_any (pX s) _ (by unfold pX; simp; omega)).mono ?_; rintro e w5 ⟨rfl, hb5⟩
    obtain ⟨hX0, hz5, hb5'⟩ := box1 (Below.refl (w5.alloc (.cells #[.int .u8 0, .int .u8 0, .int .u8 0, .int .u8 0, .int .u8 0, .int .u8 0, .int .u8 0, .int .u8 0] 29)).heap.size (w5.alloc (.cells #[.int .u8 0, .int .u8 0, .int .u8 0, .int .u8 0, .int .u8 0, .int .u8 0, .int .u8 0, .int .u8 0] 29)))
    have HX0 : Hid (Blk _ w5.heap.size 29 (b8s (zb 8)).toArray) := hX0
    have HA5 := hid (HA4.out.below (ext_trans hb5 hb5') HA4.out.lt)
    have HT5 := hid (HT4.out.below (ext_trans hb5 hb5') HT4.out.lt)
    have HB5 := hid (HB4.out.trans ((ext_trans hb5 hb5').mono HB4.out.size))
    have HLT5 := hid (show w3.heap.size < w5.heap.size from Nat.lt_of_lt_of_le HT4.out.lt hb5.size)
    clear hb5 hb5' hX0 hz5 HA4 HB4 HT4
    go_wp2_with (first
      | (refine wpList_store_av rfl 29 (.tmp 6) (.tmp 74) rfl w5.heap.size 8 (spanT (pX s)) (zb 8) _ rfl rfl HX0.out info_span (spanT_length _) (zb_length _) ?_; intro w6 hw6 hX6; have HX6 := hid hX6; have HA6 : Hid (Blk w6 w.heap.size 56 (hc 0 (zb 16) (zb 8) 0).toArray) := (by rw [hw6]; exact setRow_far HA5.out (by have := HLT3.out; have := HLT5.out; omega)); have HT6 : Hid (Blk w6 w3.heap.size 27 (b8s (traceT (pT s))).toArray) := (by rw [hw6]; exact setRow_far HT5.out (by have := HLT5.out; omega)); have HB6 : Hid (Below w.heap.size w w6) := (by rw [hw6]; exact setRow_below HB5.out (by have := HLT3.out; have := HLT5.out; omega) _); clear hw6 hX6 HA5 HB5 HT5 HX0)
      | (refine wpList_build_to rfl 56 #[] rfl [] _ rfl built_rzero ?_; change wpList _ _ _ _ (Act.put _ _ (Hv 0 (zb 16) (zb 8) 0)) _)
      | (refine wpList_store_hv rfl 56 (.tmp 2) (.tmp 82) rfl w.heap.size _ 0 0 0 0 (zb 16) (zb 8) (zb 16) (zb 8) rfl rfl HA6.out info_rhdr (zb_length _) (zb_length _) (zb_length _) (zb_length _) ?_; intro w9 hw9 hA9; have HA9 := hid hA9; have HW9 := hid hw9; clear hw9 hA9))
    exact bodyPost_ret (results_hv2 rfl _ _ _ _ _ 0 0 (zb 16) (zb 8) rfl HA9.out Tryz.underlying56 rfl info_rhdr (zb_length _) (zb_length _)) rfl ⟨by rw [HR.out]; rfl, by rw [HW9.out]; exact setRow_below HB6.out (Nat.le_refl _) _⟩
  · have ql : ¬ ((55 : Int) < (s.length : Int)) := by omega
    have qz : (s.take 2 == [48, 48]) = false := beq_eq_false_iff_ne.2 hz
    have qz2 : (s.take 2 != [48, 48]) = true := by rw [bne, qz]; rfl
    clear hsp hd hv hdd t1 t2 k1 k2 lT lX lV lF hl hz
    go_enter Tryz.func28, Tryz.ntmps28
    go_wp2_with fail
    rw [← HW.out]
    refine region_steady (fun u => Below W.heap.size W u) (by kernel_rfl) (by kernel_rfl) (ext_drew _) ?_
    have qd0 := HQ0.out
    repeat (first
      | (refine steady_off (by rfl) ?_; try simp only [Act.put, List.setIfInBounds_toArray, List.set_cons_zero, List.set_cons_succ])
      | (refine steady_pure (v := ?_) (by rfl) ?_ ?_; rotate_left; (focus (intro u; go_simp; with_reducible rfl)); try simp only [Act.put, List.setIfInBounds_toArray, List.set_cons_zero, List.set_cons_succ]))
    (refine steady_add _ _ _ _ rfl (by rfl) (by rfl) ?_ (by rfl) ?_; (focus (simp only [List.length_take, List.length_drop]; omega)); try simp only [Act.put, List.setIfInBounds_toArray, List.set_cons_zero, List.set_cons_succ])
    refine steady_call (fun u hu => bel_call hu (HD.out ▸ rdigits_bel _ u (by simp only [List.length_append, List.length_take, List.length_drop]; omega))) (by rfl) (fun u => by go_simp) ?_
    try simp only [Act.put, List.setIfInBounds_toArray, List.set_cons_zero, List.set_cons_succ]
    repeat (first
      | (refine steady_off (by rfl) ?_; try simp only [Act.put, List.setIfInBounds_toArray, List.set_cons_zero, List.set_cons_succ])
      | (refine steady_pure (v := ?_) (by rfl) ?_ ?_; rotate_left; (focus (intro u; go_simp; with_reducible rfl)); try simp only [Act.put, List.setIfInBounds_toArray, List.set_cons_zero, List.set_cons_succ]))
    refine steady_nil (fun u1 hu1 => ?_)
    clear qd0
    have HA1 := hid (HA.out.below hu1 HA.out.lt)
    have HB1 := hid (HBW.out.trans (hu1.mono HBW.out.size))
    clear hu1 HD HA HBW
    go_wp2_with fail
    refine region_steady (fun u => Below u1.heap.size u1 u) (by kernel_rfl) (by kernel_rfl) (ext_drew _) ?_
    repeat (first
      | (refine steady_off (by rfl) ?_; try simp only [Act.put, List.setIfInBounds_toArray, List.set_cons_zero, List.set_cons_succ])
      | (refine steady_pure (v := ?_) (by rfl) ?_ ?_; rotate_left; (focus (intro u; go_simp; with_reducible rfl)); try simp only [Act.put, List.setIfInBounds_toArray, List.set_cons_zero, List.set_cons_succ]))
    (refine steady_add _ _ _ _ rfl (by rfl) (by rfl) ?_ (by rfl) ?_; (focus (simp only [List.length_take, List.length_drop]; omega)); try simp only [Act.put, List.setIfInBounds_toArray, List.set_cons_zero, List.set_cons_succ])
    refine steady_call (fun u hu => bel_call hu (HE.out ▸ rdigits_bel _ u (by simp only [List.length_append, List.length_take, List.length_drop]; omega))) (by rfl) (fun u => by go_simp) ?_
    try simp only [Act.put, List.setIfInBounds_toArray, List.set_cons_zero, List.set_cons_succ]
    repeat (first
      | (refine steady_off (by rfl) ?_; try simp only [Act.put, List.setIfInBounds_toArray, List.set_cons_zero, List.set_cons_succ])
      | (refine steady_pure (v := ?_) (by rfl) ?_ ?_; rotate_left; (focus (intro u; go_simp; with_reducible rfl)); try simp only [Act.put, List.setIfInBounds_toArray, List.set_cons_zero, List.set_cons_succ]))
    refine steady_nil (fun u2 hu2 => ?_)
    have HA2 := hid (HA1.out.below hu2 HA1.out.lt)
    have HB2 := hid (HB1.out.trans (hu2.mono HB1.out.size))
    clear hu2 HE HA1 HB1
    go_wp2_with fail
    refine (rreadtrace_any (pT s) _ (by unfold pT; simp; omega)).mono ?_; rintro e w3 ⟨rfl, hb3⟩
    obtain ⟨hT0, hz3, hb3'⟩ := box1 (Below.refl (w3.alloc (.cells #[.int .u8 0, .int .u8 0, .int .u8 0, .int .u8 0, .int .u8 0, .int .u8 0, .int .u8 0, .int .u8 0, .int .u8 0, .int .u8 0, .int .u8 0, .int .u8 0, .int .u8 0, .int .u8 0, .int .u8 0, .int .u8 0] 27)).heap.size (w3.alloc (.cells #[.int .u8 0, .int .u8 0, .int .u8 0, .int .u8 0, .int .u8 0, .int .u8 0, .int .u8 0, .int .u8 0, .int .u8 0, .int .u8 0, .int .u8 0, .int .u8 0, .int .u8 0, .int .u8 0, .int .u8 0, .int .u8 0] 27)))
    have HT0 : Hid (Blk _ w3.heap.size 27 (b8s (zb 16)).toArray) := hT0
    have HA3 := hid (HA2.out.below (ext_trans hb3 hb3') HA2.out.lt)
    have HB3 := hid (HB2.out.trans ((ext_trans hb3 hb3').mono HB2.out.size))
    have HLT3 := hid (show w.heap.size < w3.heap.size from Nat.lt_of_lt_of_le HA2.out.lt hb3.size)
    clear hb3 hb3' hT0 hz3 HA2 HB2
    go_wp2_with (refine wpList_store_av rfl 27 (.tmp 4) (.tmp 68) rfl w3.heap.size 16 (traceT (pT s)) (zb 16) _ rfl rfl HT0.out info_trace (traceT_length _) (zb_length _) ?_; intro w4 hw4 hT4; have HT4 := hid hT4; have HW4 := hid hw4; clear hw4 hT4)
    have HA4 : Hid (Blk w4 w.heap.size 56 (hc 0 (zb 16) (zb 8) 0).toArray) := by rw [HW4.out]; exact setRow_far HA3.out (by have := HLT3.out; omega)
    have HB4 : Hid (Below w.heap.size w w4) := by rw [HW4.out]; exact setRow_below HB3.out (by have := HLT3.out; omega) _
    clear HA3 HB3 HT0 HW4
    refine (rreadspan_any (pX s) _ (by unfold pX; simp; omega)).mono ?_; rintro e w5 ⟨rfl, hb5⟩
    obtain ⟨hX0, hz5, hb5'⟩ := box1 (Below.refl (w5.alloc (.cells #[.int .u8 0, .int .u8 0, .int .u8 0, .int .u8 0, .int .u8 0, .int .u8 0, .int .u8 0, .int .u8 0] 29)).heap.size (w5.alloc (.cells #[.int .u8 0, .int .u8 0, .int .u8 0, .int .u8 0, .int .u8 0, .int .u8 0, .int .u8 0, .int .u8 0] 29)))
    have HX0 : Hid (Blk _ w5.heap.size 29 (b8s (zb 8)).toArray) := hX0
    have HA5 := hid (HA4.out.below (ext_trans hb5 hb5') HA4.out.lt)
    have HT5 := hid (HT4.out.below (ext_trans hb5 hb5') HT4.out.lt)
    have HB5 := hid (HB4.out.trans ((ext_trans hb5 hb5').mono HB4.out.size))
    have HLT5 := hid (show w3.heap.size < w5.heap.size from Nat.lt_of_lt_of_le HT4.out.lt hb5.size)
    clear hb5 hb5' hX0 hz5 HA4 HB4 HT4
    go_wp2_with (first
      | (refine wpList_store_av rfl 29 (.tmp 6) (.tmp 74) rfl w5.heap.size 8 (spanT (pX s)) (zb 8) _ rfl rfl HX0.out info_span (spanT_length _) (zb_length _) ?_; intro w6 hw6 hX6; have HX6 := hid hX6; have HA6 : Hid (Blk w6 w.heap.size 56 (hc 0 (zb 16) (zb 8) 0).toArray) := (by rw [hw6]; exact setRow_far HA5.out (by have := HLT3.out; have := HLT5.out; omega)); have HT6 : Hid (Blk w6 w3.heap.size 27 (b8s (traceT (pT s))).toArray) := (by rw [hw6]; exact setRow_far HT5.out (by have := HLT5.out; omega)); have HB6 : Hid (Below w.heap.size w w6) := (by rw [hw6]; exact setRow_below HB5.out (by have := HLT3.out; have := HLT5.out; omega) _); clear hw6 hX6 HA5 HB5 HT5 HX0)
      | (refine wpList_build_to rfl 56 #[] rfl [] _ rfl built_rzero ?_; change wpList _ _ _ _ (Act.put _ _ (Hv 0 (zb 16) (zb 8) 0)) _)
      | (refine wpList_store_hv rfl 56 (.tmp 2) (.tmp 82) rfl w.heap.size _ 0 0 0 0 (zb 16) (zb 8) (zb 16) (zb 8) rfl rfl HA6.out info_rhdr (zb_length _) (zb_length _) (zb_length _) (zb_length _) ?_; intro w9 hw9 hA9; have HA9 := hid hA9; have HW9 := hid hw9; clear hw9 hA9))
    exact bodyPost_ret (results_hv2 rfl _ _ _ _ _ 0 0 (zb 16) (zb 8) rfl HA9.out Tryz.underlying56 rfl info_rhdr (zb_length _) (zb_length _)) rfl ⟨by rw [HR.out]; rfl, by rw [HW9.out]; exact setRow_below HB6.out (Nat.le_refl _) _⟩
set_option maxRecDepth 100000 in
set_option maxHeartbeats 4000000 in
theorem rhread_good (s : List UInt8) (w : World) (hs : s.length ≤ 140737488355328) (hsp : splitOk s = true) (hd : digB (pV s ++ pF s) = true) (hv : ¬ verBad s) (he : digB (pT s ++ pX s) = true) (hc0 : traceC (pT s) = 0) (hcx : spanC (pX s) = 0) :
    Calls Tryz.prog 28 #[Sv s] w fun e w' => e = .returned (hdrOut (readH s)) ∧ Below w.heap.size w w' := by
  obtain ⟨W, hW⟩ : ∃ W, W = w.alloc (.cells #[.int .u8 0, .int .u8 0, .int .u8 0, .int .u8 0, .int .u8 0, .int .u8 0, .int .u8 0, .int .u8 0, .int .u8 0, .int .u8 0, .int .u8 0, .int .u8 0, .int .u8 0, .int .u8 0, .int .u8 0, .int .u8 0, .int .u8 0, .int .u8 0, .int .u8 0, .int .u8 0, .int .u8 0, .int .u8 0, .int .u8 0, .int .u8 0, .int .u8 0, .int .u8 0] 56) := ⟨_, rfl⟩
  have HW := hid hW
  have HA : Hid (Blk W w.heap.size 56 (hc 0 (zb 16) (zb 8) 0).toArray) := by rw [hW]; exact Blk.new w _ _
  have HBW : Hid (Below w.heap.size w W) := by rw [hW]; exact ext_alloc w _
  clear hW
  have hsp' : 55 ≤ s.length ∧ byteAt s 2 = 45 ∧ byteAt s 35 = 45 ∧ byteAt s 52 = 45 := by unfold splitOk at hsp; exact of_decide_eq_true hsp
  obtain ⟨k0, h1, h2, h3⟩ := hsp'
  have q0 : ¬ ((s.length : Int) < 55) := by omega
  have HQ0 := hid (show decide ((s.length : Int) < 55) = false from decide_eq_false q0)
  have q2 : (2 : Int) < (s.length : Int) := by omega
  have q35 : (35 : Int) < (s.length : Int) := by omega
  have q52 : (52 : Int) < (s.length : Int) := by omega
  have q55 : (55 : Int) ≤ (s.length : Int) := by omega
  have q22 : (2 : Int) ≤ (s.length : Int) := by omega
  have q35' : (35 : Int) ≤ (s.length : Int) := by omega
  have q52' : (52 : Int) ≤ (s.length : Int) := by omega
  have b1 : (byteAt s 2 != 45) = false := by simpa using h1
  have b2 : (byteAt s 35 != 45) = false := by simpa using h2
  have b3 : (byteAt s 52 != 45) = false := by simpa using h3
  clear h1 h2 h3
  have lV : (pV s).length = 2 := by unfold pV; simp; omega
  have lF : (pF s).length = 2 := by unfold pF; simp; omega
  have hdd : digB (pV s) = true ∧ digB (pF s) = true := by rw [digB_app] at hd; simpa using hd
  have HD := hid (show digB (s.take 2 ++ (s.drop 53).take 2) = true from hd)
  obtain ⟨t1, t2⟩ := two_val lV hdd.1
  have qf : (s.take 2 == [102, 102]) = false := beq_eq_false_iff_ne.2 fun h => hv (.inl (t1.2 h))
  have lT : (pT s).length = 32 := by unfold pT; simp; omega
  have lX : (pX s).length = 16 := by unfold pX; simp; omega
  have k1 := traceC_dig lT
  have k2 := spanC_dig lX
  have HE := hid (show digB ((s.drop 3).take 32 ++ (s.drop 36).take 16) = true from he)
  have he2 : digB (pT s) = true ∧ digB (pX s) = true := by rw [digB_app] at he; simpa using he
  have n3 : ¬ (traceC (pT s) = 3 ∨ spanC (pX s) = 3) := by rw [k1, k2, he2.1, he2.2]; simp
  have c1 : (traceC (pT s) != 0) = false := by rw [hc0]; rfl
  have c2 : (spanC (pX s) != 0) = false := by rw [hcx]; rfl
  have HR := hid (show hdrOut (readH s) = .tuple #[Hv (oneV (pV s)) (traceT (pT s)) (spanT (pX s)) (if 0 < oneV (pV s) then oneV (pF s) % 2 else oneV (pF s)), .int .i64 0] by
    unfold readH; rw [if_pos hsp, (two_ok lV).1, (two_ok lF).1, if_pos hdd, if_neg hv, if_neg n3, if_pos ⟨hc0, hcx⟩]; rfl)
  obtain ⟨yV, eV⟩ : ∃ y, oneV (pV s) = y := ⟨_, rfl⟩
  obtain ⟨yF, eF⟩ : ∃ y, oneV (pF s) = y := ⟨_, rfl⟩
  have EV := hid (show byO (s.take 2) = yV by rw [← eV]; exact (two_ok lV).2)
  have EF := hid (show byO ((s.drop 53).take 2) = yF by rw [← eF]; exact (two_ok lF).2)
  have yV0 : 0 ≤ yV := by rw [← eV]; exact (oneV_bd _).1
  have yV1 : yV ≤ 255 := by rw [← eV]; exact (oneV_bd _).2
  have yF0 : 0 ≤ yF := by rw [← eF]; exact (oneV_bd _).1
  have yF1 : yF ≤ 255 := by rw [← eF]; exact (oneV_bd _).2
  clear he he2 n3 hcx hc0
  by_cases hl : 55 < s.length
  · have ql : (55 : Int) < (s.length : Int) := by omega
    have qz : (s.take 2 == [48, 48]) = false := beq_eq_false_iff_ne.2 fun h => hv (.inr (.inl ⟨t2.2 h, hl⟩))
    have qd : (byteAt s 55 != 45) = false := by
      by_cases h : byteAt s 55 = 45
      · simpa using h
      · exact absurd (.inr (.inr ⟨hl, h⟩)) hv
    have qz2 : (s.take 2 != [48, 48]) = true := by rw [bne, qz]; rfl
    have n0 : oneV (pV s) ≠ 0 := fun h => by have := t2.1 h; rw [show s.take 2 = pV s from rfl, this] at qz; cases qz
    have HF := hid (show (if 0 < oneV (pV s) then oneV (pF s) % 2 else oneV (pF s)) = oneV (pF s) % 2 from if_pos (by have := (oneV_bd (pV s)).1; omega))
    clear n0
    have HR2 := hid (show hdrOut (readH s) = .tuple #[Hv yV (traceT (pT s)) (spanT (pX s)) (yF % 2), .int .i64 0] by rw [HR.out, HF.out, eF, eV])
    clear eF eV hsp hd hv hdd t1 t2 k1 k2 lT lX lV lF hl

    go_enter Tryz.func28, Tryz.ntmps28
    go_wp2_with fail
    rw [← HW.out]
    refine region_steady (fun u => Below W.heap.size W u) (by kernel_rfl) (by kernel_rfl) (ext_drew _) ?_
    have qd0 := HQ0.out
    repeat (first
      | (refine steady_off (by rfl) ?_; try simp only [Act.put, List.setIfInBounds_toArray, List.set_cons_zero, List.set_cons_succ])
      | (refine steady_pure (v := ?_) (by rfl) ?_ ?_; rotate_left; (focus (intro u; go_simp; with_reducible rfl)); try simp only [Act.put, List.setIfInBounds_toArray, List.set_cons_zero, List.set_cons_succ]))
    (refine steady_add _ _ _ _ rfl (by rfl) (by rfl) ?_ (by rfl) ?_; (focus (simp only [List.length_take, List.length_drop]; omega)); try simp only [Act.put, List.setIfInBounds_toArray, List.set_cons_zero, List.set_cons_succ])
    refine steady_call (fun u hu => bel_call hu (HD.out ▸ rdigits_bel _ u (by simp only [List.length_append, List.length_take, List.length_drop]; omega))) (by rfl) (fun u => by go_simp) ?_
    try simp only [Act.put, List.setIfInBounds_toArray, List.set_cons_zero, List.set_cons_succ]
    repeat (first
      | (refine steady_off (by rfl) ?_; try simp only [Act.put, List.setIfInBounds_toArray, List.set_cons_zero, List.set_cons_succ])
      | (refine steady_pure (v := ?_) (by rfl) ?_ ?_; rotate_left; (focus (intro u; go_simp; with_reducible rfl)); try simp only [Act.put, List.setIfInBounds_toArray, List.set_cons_zero, List.set_cons_succ]))
    refine steady_nil (fun u1 hu1 => ?_)
    clear qd0
    have HA1 := hid (HA.out.below hu1 HA.out.lt)
    have HB1 := hid (HBW.out.trans (hu1.mono HBW.out.size))
    clear hu1 HD HA HBW
    go_wp2_with fail
    refine region_steady (fun u => Below u1.heap.size u1 u) (by kernel_rfl) (by kernel_rfl) (ext_drew _) ?_
    repeat (first
      | (refine steady_off (by rfl) ?_; try simp only [Act.put, List.setIfInBounds_toArray, List.set_cons_zero, List.set_cons_succ])
      | (refine steady_pure (v := ?_) (by rfl) ?_ ?_; rotate_left; (focus (intro u; go_simp; with_reducible rfl)); try simp only [Act.put, List.setIfInBounds_toArray, List.set_cons_zero, List.set_cons_succ]))
    (refine steady_add _ _ _ _ rfl (by rfl) (by rfl) ?_ (by rfl) ?_; (focus (simp only [List.length_take, List.length_drop]; omega)); try simp only [Act.put, List.setIfInBounds_toArray, List.set_cons_zero, List.set_cons_succ])
    refine steady_call (fun u hu => bel_call hu (HE.out ▸ rdigits_bel _ u (by simp only [List.length_append, List.length_take, List.length_drop]; omega))) (by rfl) (fun u => by go_simp) ?_
    try simp only [Act.put, List.setIfInBounds_toArray, List.set_cons_zero, List.set_cons_succ]
    repeat (first
      | (refine steady_off (by rfl) ?_; try simp only [Act.put, List.setIfInBounds_toArray, List.set_cons_zero, List.set_cons_succ])
      | (refine steady_pure (v := ?_) (by rfl) ?_ ?_; rotate_left; (focus (intro u; go_simp; with_reducible rfl)); try simp only [Act.put, List.setIfInBounds_toArray, List.set_cons_zero, List.set_cons_succ]))
    refine steady_nil (fun u2 hu2 => ?_)
    have HA2 := hid (HA1.out.below hu2 HA1.out.lt)
    have HB2 := hid (HB1.out.trans (hu2.mono HB1.out.size))
    clear hu2 HE HA1 HB1
    go_wp2_with fail
    refine (rreadtrace_any (pT s) _ (by unfold pT; simp; omega)).mono ?_; rintro e w3 ⟨rfl, hb3⟩
    obtain ⟨hT0, hz3, hb3'⟩ := box1 (Below.refl (w3.alloc (.cells #[.int .u8 0, .int .u8 0, .int .u8 0, .int .u8 0, .int .u8 0, .int .u8 0, .int .u8 0, .int .u8 0, .int .u8 0, .int .u8 0, .int .u8 0, .int .u8 0, .int .u8 0, .int .u8 0, .int .u8 0, .int .u8 0] 27)).heap.size (w3.alloc (.cells #[.int .u8 0, .int .u8 0, .int .u8 0, .int .u8 0, .int .u8 0, .int .u8 0, .int .u8 0, .int .u8 0, .int .u8 0, .int .u8 0, .int .u8 0, .int .u8 0, .int .u8 0, .int .u8 0, .int .u8 0, .int .u8 0] 27)))
    have HT0 : Hid (Blk _ w3.heap.size 27 (b8s (zb 16)).toArray) := hT0
    have HA3 := hid (HA2.out.below (ext_trans hb3 hb3') HA2.out.lt)
    have HB3 := hid (HB2.out.trans ((ext_trans hb3 hb3').mono HB2.out.size))
    have HLT3 := hid (show w.heap.size < w3.heap.size from Nat.lt_of_lt_of_le HA2.out.lt hb3.size)
    clear hb3 hb3' hT0 hz3 HA2 HB2
    go_wp2_with (refine wpList_store_av rfl 27 (.tmp 4) (.tmp 68) rfl w3.heap.size 16 (traceT (pT s)) (zb 16) _ rfl rfl HT0.out info_trace (traceT_length _) (zb_length _) ?_; intro w4 hw4 hT4; have HT4 := hid hT4; have HW4 := hid hw4; clear hw4 hT4)
    have HA4 : Hid (Blk w4 w.heap.size 56 (hc 0 (zb 16) (zb 8) 0).toArray) := by rw [HW4.out]; exact setRow_far HA3.out (by have := HLT3.out; omega)
    have HB4 : Hid (Below w.heap.size w w4) := by rw [HW4.out]; exact setRow_below HB3.out (by have := HLT3.out; omega) _
    clear HA3 HB3 HT0 HW4
    refine (rreadspan_any (pX s) _ (by unfold pX; simp; omega)).mono ?_; rintro e w5 ⟨rfl, hb5⟩
    obtain ⟨hX0, hz5, hb5'⟩ := box1 (Below.refl (w5.alloc (.cells #[.int .u8 0, .int .u8 0, .int .u8 0, .int .u8 0, .int .u8 0, .int .u8 0, .int .u8 0, .int .u8 0] 29)).heap.size (w5.alloc (.cells #[.int .u8 0, .int .u8 0, .int .u8 0, .int .u8 0, .int .u8 0, .int .u8 0, .int .u8 0, .int .u8 0] 29)))
    have HX0 : Hid (Blk _ w5.heap.size 29 (b8s (zb 8)).toArray) := hX0
    have HA5 := hid (HA4.out.below (ext_trans hb5 hb5') HA4.out.lt)
    have HT5 := hid (HT4.out.below (ext_trans hb5 hb5') HT4.out.lt)
    have HB5 := hid (HB4.out.trans ((ext_trans hb5 hb5').mono HB4.out.size))
    have HLT5 := hid (show w3.heap.size < w5.heap.size from Nat.lt_of_lt_of_le HT4.out.lt hb5.size)
    clear hb5 hb5' hX0 hz5 HA4 HB4 HT4
    go_wp2_with (refine wpList_store_av rfl 29 (.tmp 6) (.tmp 74) rfl w5.heap.size 8 (spanT (pX s)) (zb 8) _ rfl rfl HX0.out info_span (spanT_length _) (zb_length _) ?_; intro w6 hw6 hX6; have HX6 := hid hX6; have HA6 : Hid (Blk w6 w.heap.size 56 (hc 0 (zb 16) (zb 8) 0).toArray) := (by rw [hw6]; exact setRow_far HA5.out (by have := HLT3.out; have := HLT5.out; omega)); have HT6 : Hid (Blk w6 w3.heap.size 27 (b8s (traceT (pT s))).toArray) := (by rw [hw6]; exact setRow_far HT5.out (by have := HLT5.out; omega)); have HB6 : Hid (Below w.heap.size w w6) := (by rw [hw6]; exact setRow_below HB5.out (by have := HLT3.out; have := HLT5.out; omega) _); clear hw6 hX6 HA5 HB5 HT5 HX0)

    go_wp2_with fail
    refine (rbyteOf_any ((s.drop 53).take 2) _ (by simp; omega)).mono ?_; rintro e w7 ⟨rfl, hb7⟩
    rw [EF.out]
    have HA7 := hid (HA6.out.below hb7 HA6.out.lt)
    have HT7 := hid (HT6.out.below hb7 HT6.out.lt)
    have HX7 := hid (HX6.out.below hb7 HX6.out.lt)
    have HB7 := hid (HB6.out.trans (hb7.mono HB6.out.size))
    clear hb7 HA6 HT6 HX6 HB6
    go_wp2_with fail
    refine region_token_tail (fun _ u => Below w7.heap.size w7 u) 0 undef 7 (by kernel_rfl) (by kernel_rfl) (ext_drew _) ?_
    simp only [List.take_succ_cons, List.take_zero, List.drop_succ_cons, List.drop_zero]
    repeat (first
      | (refine tok_off (by decide) (fun _ => by rfl) ?_; try simp only [Act.put, List.setIfInBounds_toArray, List.set_cons_zero, List.set_cons_succ])
      | (refine tok_pure (v := ?_) (by decide) (fun _ => by rfl) ?_ ?_; rotate_left; (focus (intro x u; simp only [fam]; go_simp; with_reducible rfl)); try simp only [Act.put, List.setIfInBounds_toArray, List.set_cons_zero, List.set_cons_succ]))
    refine tok_call (fun y u k => bel_call k (EV.out ▸ rbyteOf_any (s.take 2) u (by simp; omega))) (by decide) (fun _ => by rfl) (fun y u => by simp only [fam]; go_simp) ?_
    try simp only [Act.put, List.setIfInBounds_toArray, List.set_cons_zero, List.set_cons_succ]
    refine tok_load 27 (.tmp 4) rfl (by decide) (fun _ => by rfl) (fun y u k => run_loadAt_mid u w3.heap.size 0 27 (b8s (traceT (pT s))) _ (fun j v hv => by rw [Nat.zero_add, (HT7.out.below k HT7.out.lt).cell j, ← hv]; simp) Tryz.underlying27 rfl (by rw [info_trace]; simp [traceT_length])) ?_
    try simp only [Act.put, List.setIfInBounds_toArray, List.set_cons_zero, List.set_cons_succ]
    refine tok_load 29 (.tmp 6) rfl (by decide) (fun _ => by rfl) (fun y u k => run_loadAt_mid u w5.heap.size 0 29 (b8s (spanT (pX s))) _ (fun j v hv => by rw [Nat.zero_add, (HX7.out.below k HX7.out.lt).cell j, ← hv]; simp) Tryz.underlying29 rfl (by rw [info_span]; simp [spanT_length])) ?_
    try simp only [Act.put, List.setIfInBounds_toArray, List.set_cons_zero, List.set_cons_succ]
    (refine tok_pure (v := ?_) (by decide) (fun _ => by rfl) ?_ ?_; rotate_left; (focus (intro x u; simp only [fam]; go_simp; with_reducible rfl)); try simp only [Act.put, List.setIfInBounds_toArray, List.set_cons_zero, List.set_cons_succ])
    refine tok_build 56 _ rfl #[(0, .int .u8 yV), (1, Av (traceT (pT s))), (2, Av (spanT (pX s))), (3, .int .u8 (yF % 2))] (fun _ => by simp only [List.map_toArray, List.map_cons, List.map_nil]; rfl) (built_rfull yV (yF % 2) (traceT (pT s)) (spanT (pX s)) (traceT_length _) (spanT_length _)) (by decide) (fun _ => by rfl) ?_
    try simp only [Act.put, List.setIfInBounds_toArray, List.set_cons_zero, List.set_cons_succ]
    refine tok_nil (fun y u k => ?_)
    simp only [fam]
    have HA8 := hid (HA7.out.below k HA7.out.lt)
    have HB8 := hid (HB7.out.trans (k.mono HB7.out.size))
    clear k HT7 HX7 HA7 HB7
    go_wp2_with (refine wpList_store_hv rfl 56 (.tmp 2) (.tmp 97) rfl w.heap.size _ yV (yF % 2) 0 0 (traceT (pT s)) (spanT (pX s)) (zb 16) (zb 8) rfl rfl HA8.out info_rhdr (traceT_length _) (spanT_length _) (zb_length _) (zb_length _) ?_; intro w9 hw9 hA9; have HA9 := hid hA9; have HW9 := hid hw9; clear hw9 hA9)
    exact bodyPost_ret (results_hv2 rfl _ _ _ _ _ yV (yF % 2) (traceT (pT s)) (spanT (pX s)) rfl HA9.out Tryz.underlying56 rfl info_rhdr (traceT_length _) (spanT_length _)) rfl ⟨by rw [HR2.out]; rfl, by rw [HW9.out]; exact setRow_below HB8.out (Nat.le_refl _) _⟩
  by_cases hz : pV s = [48, 48]
  · have ql : ¬ ((55 : Int) < (s.length : Int)) := by omega
    have qz : (s.take 2 == [48, 48]) = true := by rw [show s.take 2 = pV s from rfl, hz]; rfl
    have qz2 : (s.take 2 != [48, 48]) = false := by rw [bne, qz]; rfl
    have HF := hid (show (if 0 < oneV (pV s) then oneV (pF s) % 2 else oneV (pF s)) = oneV (pF s) by rw [t2.2 hz]; rfl)
    have HR2 := hid (show hdrOut (readH s) = .tuple #[Hv yV (traceT (pT s)) (spanT (pX s)) yF, .int .i64 0] by rw [HR.out, HF.out, eF, eV])
    clear eF eV hsp hd hv hdd t1 t2 k1 k2 lT lX lV lF hl hz

    go_enter Tryz.func28, Tryz.ntmps28
    go_wp2_with fail
    rw [← HW.out]
    refine region_steady (fun u => Below W.heap.size W u) (by kernel_rfl) (by kernel_rfl) (ext_drew _) ?_
    have qd0 := HQ0.out
    repeat (first
      | (refine steady_off (by rfl) ?_; try simp only [Act.put, List.setIfInBounds_toArray, List.set_cons_zero, List.set_cons_succ])
      | (refine steady_pure (v := ?_) (by rfl) ?_ ?_; rotate_left; (focus (intro u; go_simp; with_reducible rfl)); try simp only [Act.put, List.setIfInBounds_toArray, List.set_cons_zero, List.set_cons_succ]))
    (refine steady_add _ _ _ _ rfl (by rfl) (by rfl) ?_ (by rfl) ?_; (focus (simp only [List.length_take, List.length_drop]; omega)); try simp only [Act.put, List.setIfInBounds_toArray, List.set_cons_zero, List.set_cons_succ])
    refine steady_call (fun u hu => bel_call hu (HD.out ▸ rdigits_bel _ u (by simp only [List.length_append, List.length_take, List.length_drop]; omega))) (by rfl) (fun u => by go_simp) ?_
    try simp only [Act.put, List.setIfInBounds_toArray, List.set_cons_zero, List.set_cons_succ]
    repeat (first
      | (refine steady_off (by rfl) ?_; try simp only [Act.put, List.setIfInBounds_toArray, List.set_cons_zero, List.set_cons_succ])
      | (refine steady_pure (v := ?_) (by rfl) ?_ ?_; rotate_left; (focus (intro u; go_simp; with_reducible rfl)); try simp only [Act.put, List.setIfInBounds_toArray, List.set_cons_zero, List.set_cons_succ]))
    refine steady_nil (fun u1 hu1 => ?_)
    clear qd0
    have HA1 := hid (HA.out.below hu1 HA.out.lt)
    have HB1 := hid (HBW.out.trans (hu1.mono HBW.out.size))
    clear hu1 HD HA HBW
    go_wp2_with fail
    refine region_steady (fun u => Below u1.heap.size u1 u) (by kernel_rfl) (by kernel_rfl) (ext_drew _) ?_
    repeat (first
      | (refine steady_off (by rfl) ?_; try simp only [Act.put, List.setIfInBounds_toArray, List.set_cons_zero, List.set_cons_succ])
      | (refine steady_pure (v := ?_) (by rfl) ?_ ?_; rotate_left; (focus (intro u; go_simp; with_reducible rfl)); try simp only [Act.put, List.setIfInBounds_toArray, List.set_cons_zero, List.set_cons_succ]))
    (refine steady_add _ _ _ _ rfl (by rfl) (by rfl) ?_ (by rfl) ?_; (focus (simp only [List.length_take, List.length_drop]; omega)); try simp only [Act.put, List.setIfInBounds_toArray, List.set_cons_zero, List.set_cons_succ])
    refine steady_call (fun u hu => bel_call hu (HE.out ▸ rdigits_bel _ u (by simp only [List.length_append, List.length_take, List.length_drop]; omega))) (by rfl) (fun u => by go_simp) ?_
    try simp only [Act.put, List.setIfInBounds_toArray, List.set_cons_zero, List.set_cons_succ]
    repeat (first
      | (refine steady_off (by rfl) ?_; try simp only [Act.put, List.setIfInBounds_toArray, List.set_cons_zero, List.set_cons_succ])
      | (refine steady_pure (v := ?_) (by rfl) ?_ ?_; rotate_left; (focus (intro u; go_simp; with_reducible rfl)); try simp only [Act.put, List.setIfInBounds_toArray, List.set_cons_zero, List.set_cons_succ]))
    refine steady_nil (fun u2 hu2 => ?_)
    have HA2 := hid (HA1.out.below hu2 HA1.out.lt)
    have HB2 := hid (HB1.out.trans (hu2.mono HB1.out.size))
    clear hu2 HE HA1 HB1
    go_wp2_with fail
    refine (rreadtrace_any (pT s) _ (by unfold pT; simp; omega)).mono ?_; rintro e w3 ⟨rfl, hb3⟩
    obtain ⟨hT0, hz3, hb3'⟩ := box1 (Below.refl (w3.alloc (.cells #[.int .u8 0, .int .u8 0, .int .u8 0, .int .u8 0, .int .u8 0, .int .u8 0, .int .u8 0, .int .u8 0, .int .u8 0, .int .u8 0, .int .u8 0, .int .u8 0, .int .u8 0, .int .u8 0, .int .u8 0, .int .u8 0] 27)).heap.size (w3.alloc (.cells #[.int .u8 0, .int .u8 0, .int .u8 0, .int .u8 0, .int .u8 0, .int .u8 0, .int .u8 0, .int .u8 0, .int .u8 0, .int .u8 0, .int .u8 0, .int .u8 0, .int .u8 0, .int .u8 0, .int .u8 0, .int .u8 0] 27)))
    have HT0 : Hid (Blk _ w3.heap.size 27 (b8s (zb 16)).toArray) := hT0
    have HA3 := hid (HA2.out.below (ext_trans hb3 hb3') HA2.out.lt)
    have HB3 := hid (HB2.out.trans ((ext_trans hb3 hb3').mono HB2.out.size))
    have HLT3 := hid (show w.heap.size < w3.heap.size from Nat.lt_of_lt_of_le HA2.out.lt hb3.size)
    clear hb3 hb3' hT0 hz3 HA2 HB2
    go_wp2_with (refine wpList_store_av rfl 27 (.tmp 4) (.tmp 68) rfl w3.heap.size 16 (traceT (pT s)) (zb 16) _ rfl rfl HT0.out info_trace (traceT_length _) (zb_length _) ?_; intro w4 hw4 hT4; have HT4 := hid hT4; have HW4 := hid hw4; clear hw4 hT4)
    have HA4 : Hid (Blk w4 w.heap.size 56 (hc 0 (zb 16) (zb 8) 0).toArray) := by rw [HW4.out]; exact setRow_far HA3.out (by have := HLT3.out; omega)
    have HB4 : Hid (Below w.heap.size w w4) := by rw [HW4.out]; exact setRow_below HB3.out (by have := HLT3.out; omega) _
    clear HA3 HB3 HT0 HW4
    refine (rreadspan_any (pX s) _ (by unfold pX; simp; omega)).mono ?_; rintro e w5 ⟨rfl, hb5⟩
    obtain ⟨hX0, hz5, hb5'⟩ := box1 (Below.refl (w5.alloc (.cells #[.int .u8 0, .int .u8 0, .int .u8 0, .int .u8 0, .int .u8 0, .int .u8 0, .int .u8 0, .int .u8 0] 29)).heap.size (w5.alloc (.cells #[.int .u8 0, .int .u8 0, .int .u8 0, .int .u8 0, .int .u8 0, .int .u8 0, .int .u8 0, .int .u8 0] 29)))
    have HX0 : Hid (Blk _ w5.heap.size 29 (b8s (zb 8)).toArray) := hX0
    have HA5 := hid (HA4.out.below (ext_trans hb5 hb5') HA4.out.lt)
    have HT5 := hid (HT4.out.below (ext_trans hb5 hb5') HT4.out.lt)
    have HB5 := hid (HB4.out.trans ((ext_trans hb5 hb5').mono HB4.out.size))
    have HLT5 := hid (show w3.heap.size < w5.heap.size from Nat.lt_of_lt_of_le HT4.out.lt hb5.size)
    clear hb5 hb5' hX0 hz5 HA4 HB4 HT4
    go_wp2_with (refine wpList_store_av rfl 29 (.tmp 6) (.tmp 74) rfl w5.heap.size 8 (spanT (pX s)) (zb 8) _ rfl rfl HX0.out info_span (spanT_length _) (zb_length _) ?_; intro w6 hw6 hX6; have HX6 := hid hX6; have HA6 : Hid (Blk w6 w.heap.size 56 (hc 0 (zb 16) (zb 8) 0).toArray) := (by rw [hw6]; exact setRow_far HA5.out (by have := HLT3.out; have := HLT5.out; omega)); have HT6 : Hid (Blk w6 w3.heap.size 27 (b8s (traceT (pT s))).toArray) := (by rw [hw6]; exact setRow_far HT5.out (by have := HLT5.out; omega)); have HB6 : Hid (Below w.heap.size w w6) := (by rw [hw6]; exact setRow_below HB5.out (by have := HLT3.out; have := HLT5.out; omega) _); clear hw6 hX6 HA5 HB5 HT5 HX0)

    go_wp2_with fail
    refine (rbyteOf_any ((s.drop 53).take 2) _ (by simp; omega)).mono ?_; rintro e w7 ⟨rfl, hb7⟩
    rw [EF.out]
    have HA7 := hid (HA6.out.below hb7 HA6.out.lt)
    have HT7 := hid (HT6.out.below hb7 HT6.out.lt)
    have HX7 := hid (HX6.out.below hb7 HX6.out.lt)
    have HB7 := hid (HB6.out.trans (hb7.mono HB6.out.size))
    clear hb7 HA6 HT6 HX6 HB6
    go_wp2_with fail
    refine region_token_tail (fun _ u => Below w7.heap.size w7 u) 0 undef 7 (by kernel_rfl) (by kernel_rfl) (ext_drew _) ?_
    simp only [List.take_succ_cons, List.take_zero, List.drop_succ_cons, List.drop_zero]
    repeat (first
      | (refine tok_off (by decide) (fun _ => by rfl) ?_; try simp only [Act.put, List.setIfInBounds_toArray, List.set_cons_zero, List.set_cons_succ])
      | (refine tok_pure (v := ?_) (by decide) (fun _ => by rfl) ?_ ?_; rotate_left; (focus (intro x u; simp only [fam]; go_simp; with_reducible rfl)); try simp only [Act.put, List.setIfInBounds_toArray, List.set_cons_zero, List.set_cons_succ]))
    refine tok_call (fun y u k => bel_call k (EV.out ▸ rbyteOf_any (s.take 2) u (by simp; omega))) (by decide) (fun _ => by rfl) (fun y u => by simp only [fam]; go_simp) ?_
    try simp only [Act.put, List.setIfInBounds_toArray, List.set_cons_zero, List.set_cons_succ]
    refine tok_load 27 (.tmp 4) rfl (by decide) (fun _ => by rfl) (fun y u k => run_loadAt_mid u w3.heap.size 0 27 (b8s (traceT (pT s))) _ (fun j v hv => by rw [Nat.zero_add, (HT7.out.below k HT7.out.lt).cell j, ← hv]; simp) Tryz.underlying27 rfl (by rw [info_trace]; simp [traceT_length])) ?_
    try simp only [Act.put, List.setIfInBounds_toArray, List.set_cons_zero, List.set_cons_succ]
    refine tok_load 29 (.tmp 6) rfl (by decide) (fun _ => by rfl) (fun y u k => run_loadAt_mid u w5.heap.size 0 29 (b8s (spanT (pX s))) _ (fun j v hv => by rw [Nat.zero_add, (HX7.out.below k HX7.out.lt).cell j, ← hv]; simp) Tryz.underlying29 rfl (by rw [info_span]; simp [spanT_length])) ?_
    try simp only [Act.put, List.setIfInBounds_toArray, List.set_cons_zero, List.set_cons_succ]
    (refine tok_pure (v := ?_) (by decide) (fun _ => by rfl) ?_ ?_; rotate_left; (focus (intro x u; simp only [fam]; go_simp; with_reducible rfl)); try simp only [Act.put, List.setIfInBounds_toArray, List.set_cons_zero, List.set_cons_succ])
    refine tok_build 56 _ rfl #[(0, .int .u8 yV), (1, Av (traceT (pT s))), (2, Av (spanT (pX s))), (3, .int .u8 yF)] (fun _ => by simp only [List.map_toArray, List.map_cons, List.map_nil]; rfl) (built_rfull yV yF (traceT (pT s)) (spanT (pX s)) (traceT_length _) (spanT_length _)) (by decide) (fun _ => by rfl) ?_
    try simp only [Act.put, List.setIfInBounds_toArray, List.set_cons_zero, List.set_cons_succ]
    refine tok_nil (fun y u k => ?_)
    simp only [fam]
    have HA8 := hid (HA7.out.below k HA7.out.lt)
    have HB8 := hid (HB7.out.trans (k.mono HB7.out.size))
    clear k HT7 HX7 HA7 HB7
    go_wp2_with (refine wpList_store_hv rfl 56 (.tmp 2) (.tmp 97) rfl w.heap.size _ yV yF 0 0 (traceT (pT s)) (spanT (pX s)) (zb 16) (zb 8) rfl rfl HA8.out info_rhdr (traceT_length _) (spanT_length _) (zb_length _) (zb_length _) ?_; intro w9 hw9 hA9; have HA9 := hid hA9; have HW9 := hid hw9; clear hw9 hA9)
    exact bodyPost_ret (results_hv2 rfl _ _ _ _ _ yV yF (traceT (pT s)) (spanT (pX s)) rfl HA9.out Tryz.underlying56 rfl info_rhdr (traceT_length _) (spanT_length _)) rfl ⟨by rw [HR2.out]; rfl, by rw [HW9.out]; exact setRow_below HB8.out (Nat.le_refl _) _⟩
  · have ql : ¬ ((55 : Int) < (s.length : Int)) := by omega
    have qz : (s.take 2 == [48, 48]) = false := beq_eq_false_iff_ne.2 hz
    have qz2 : (s.take 2 != [48, 48]) = true := by rw [bne, qz]; rfl
    have n0 : oneV (pV s) ≠ 0 := fun h => by have := t2.1 h; rw [show s.take 2 = pV s from rfl, this] at qz; cases qz
    have HF := hid (show (if 0 < oneV (pV s) then oneV (pF s) % 2 else oneV (pF s)) = oneV (pF s) % 2 from if_pos (by have := (oneV_bd (pV s)).1; omega))
    clear n0
    have HR2 := hid (show hdrOut (readH s) = .tuple #[Hv yV (traceT (pT s)) (spanT (pX s)) (yF % 2), .int .i64 0] by rw [HR.out, HF.out, eF, eV])
    clear eF eV hsp hd hv hdd t1 t2 k1 k2 lT lX lV lF hl hz

    go_enter Tryz.func28, Tryz.ntmps28
    go_wp2_with fail
    rw [← HW.out]
    refine region_steady (fun u => Below W.heap.size W u) (by kernel_rfl) (by kernel_rfl) (ext_drew _) ?_
    have qd0 := HQ0.out
    repeat (first
      | (refine steady_off (by rfl) ?_; try simp only [Act.put, List.setIfInBounds_toArray, List.set_cons_zero, List.set_cons_succ])
      | (refine steady_pure (v := ?_) (by rfl) ?_ ?_; rotate_left; (focus (intro u; go_simp; with_reducible rfl)); try simp only [Act.put, List.setIfInBounds_toArray, List.set_cons_zero, List.set_cons_succ]))
    (refine steady_add _ _ _ _ rfl (by rfl) (by rfl) ?_ (by rfl) ?_; (focus (simp only [List.length_take, List.length_drop]; omega)); try simp only [Act.put, List.setIfInBounds_toArray, List.set_cons_zero, List.set_cons_succ])
    refine steady_call (fun u hu => bel_call hu (HD.out ▸ rdigits_bel _ u (by simp only [List.length_append, List.length_take, List.length_drop]; omega))) (by rfl) (fun u => by go_simp) ?_
    try simp only [Act.put, List.setIfInBounds_toArray, List.set_cons_zero, List.set_cons_succ]
    repeat (first
      | (refine steady_off (by rfl) ?_; try simp only [Act.put, List.setIfInBounds_toArray, List.set_cons_zero, List.set_cons_succ])
      | (refine steady_pure (v := ?_) (by rfl) ?_ ?_; rotate_left; (focus (intro u; go_simp; with_reducible rfl)); try simp only [Act.put, List.setIfInBounds_toArray, List.set_cons_zero, List.set_cons_succ]))
    refine steady_nil (fun u1 hu1 => ?_)
    clear qd0
    have HA1 := hid (HA.out.below hu1 HA.out.lt)
    have HB1 := hid (HBW.out.trans (hu1.mono HBW.out.size))
    clear hu1 HD HA HBW
    go_wp2_with fail
    refine region_steady (fun u => Below u1.heap.size u1 u) (by kernel_rfl) (by kernel_rfl) (ext_drew _) ?_
    repeat (first
      | (refine steady_off (by rfl) ?_; try simp only [Act.put, List.setIfInBounds_toArray, List.set_cons_zero, List.set_cons_succ])
      | (refine steady_pure (v := ?_) (by rfl) ?_ ?_; rotate_left; (focus (intro u; go_simp; with_reducible rfl)); try simp only [Act.put, List.setIfInBounds_toArray, List.set_cons_zero, List.set_cons_succ]))
    (refine steady_add _ _ _ _ rfl (by rfl) (by rfl) ?_ (by rfl) ?_; (focus (simp only [List.length_take, List.length_drop]; omega)); try simp only [Act.put, List.setIfInBounds_toArray, List.set_cons_zero, List.set_cons_succ])
    refine steady_call (fun u hu => bel_call hu (HE.out ▸ rdigits_bel _ u (by simp only [List.length_append, List.length_take, List.length_drop]; omega))) (by rfl) (fun u => by go_simp) ?_
    try simp only [Act.put, List.setIfInBounds_toArray, List.set_cons_zero, List.set_cons_succ]
    repeat (first
      | (refine steady_off (by rfl) ?_; try simp only [Act.put, List.setIfInBounds_toArray, List.set_cons_zero, List.set_cons_succ])
      | (refine steady_pure (v := ?_) (by rfl) ?_ ?_; rotate_left; (focus (intro u; go_simp; with_reducible rfl)); try simp only [Act.put, List.setIfInBounds_toArray, List.set_cons_zero, List.set_cons_succ]))
    refine steady_nil (fun u2 hu2 => ?_)
    have HA2 := hid (HA1.out.below hu2 HA1.out.lt)
    have HB2 := hid (HB1.out.trans (hu2.mono HB1.out.size))
    clear hu2 HE HA1 HB1
    go_wp2_with fail
    refine (rreadtrace_any (pT s) _ (by unfold pT; simp; omega)).mono ?_; rintro e w3 ⟨rfl, hb3⟩
    obtain ⟨hT0, hz3, hb3'⟩ := box1 (Below.refl (w3.alloc (.cells #[.int .u8 0, .int .u8 0, .int .u8 0, .int .u8 0, .int .u8 0, .int .u8 0, .int .u8 0, .int .u8 0, .int .u8 0, .int .u8 0, .int .u8 0, .int .u8 0, .int .u8 0, .int .u8 0, .int .u8 0, .int .u8 0] 27)).heap.size (w3.alloc (.cells #[.int .u8 0, .int .u8 0, .int .u8 0, .int .u8 0, .int .u8 0, .int .u8 0, .int .u8 0, .int .u8 0, .int .u8 0, .int .u8 0, .int .u8 0, .int .u8 0, .int .u8 0, .int .u8 0, .int .u8 0, .int .u8 0] 27)))
    have HT0 : Hid (Blk _ w3.heap.size 27 (b8s (zb 16)).toArray) := hT0
    have HA3 := hid (HA2.out.below (ext_trans hb3 hb3') HA2.out.lt)
    have HB3 := hid (HB2.out.trans ((ext_trans hb3 hb3').mono HB2.out.size))
    have HLT3 := hid (show w.heap.size < w3.heap.size from Nat.lt_of_lt_of_le HA2.out.lt hb3.size)
    clear hb3 hb3' hT0 hz3 HA2 HB2
    go_wp2_with (refine wpList_store_av rfl 27 (.tmp 4) (.tmp 68) rfl w3.heap.size 16 (traceT (pT s)) (zb 16) _ rfl rfl HT0.out info_trace (traceT_length _) (zb_length _) ?_; intro w4 hw4 hT4; have HT4 := hid hT4; have HW4 := hid hw4; clear hw4 hT4)
    have HA4 : Hid (Blk w4 w.heap.size 56 (hc 0 (zb 16) (zb 8) 0).toArray) := by rw [HW4.out]; exact setRow_far HA3.out (by have := HLT3.out; omega)
    have HB4 : Hid (Below w.heap.size w w4) := by rw [HW4.out]; exact setRow_below HB3.out (by have := HLT3.out; omega) _
    clear HA3 HB3 HT0 HW4
    refine (rreadspan_any (pX s) _ (by unfold pX; simp; omega)).mono ?_; rintro e w5 ⟨rfl, hb5⟩
    obtain ⟨hX0, hz5, hb5'⟩ := box1 (Below.refl (w5.alloc (.cells #[.int .u8 0, .int .u8 0, .int .u8 0, .int .u8 0, .int .u8 0, .int .u8 0, .int .u8 0, .int .u8 0] 29)).heap.size (w5.alloc (.cells #[.int .u8 0, .int .u8 0, .int .u8 0, .int .u8 0, .int .u8 0, .int .u8 0, .int .u8 0, .int .u8 0] 29)))
    have HX0 : Hid (Blk _ w5.heap.size 29 (b8s (zb 8)).toArray) := hX0
    have HA5 := hid (HA4.out.below (ext_trans hb5 hb5') HA4.out.lt)
    have HT5 := hid (HT4.out.below (ext_trans hb5 hb5') HT4.out.lt)
    have HB5 := hid (HB4.out.trans ((ext_trans hb5 hb5').mono HB4.out.size))
    have HLT5 := hid (show w3.heap.size < w5.heap.size from Nat.lt_of_lt_of_le HT4.out.lt hb5.size)
    clear hb5 hb5' hX0 hz5 HA4 HB4 HT4
    go_wp2_with (refine wpList_store_av rfl 29 (.tmp 6) (.tmp 74) rfl w5.heap.size 8 (spanT (pX s)) (zb 8) _ rfl rfl HX0.out info_span (spanT_length _) (zb_length _) ?_; intro w6 hw6 hX6; have HX6 := hid hX6; have HA6 : Hid (Blk w6 w.heap.size 56 (hc 0 (zb 16) (zb 8) 0).toArray) := (by rw [hw6]; exact setRow_far HA5.out (by have := HLT3.out; have := HLT5.out; omega)); have HT6 : Hid (Blk w6 w3.heap.size 27 (b8s (traceT (pT s))).toArray) := (by rw [hw6]; exact setRow_far HT5.out (by have := HLT5.out; omega)); have HB6 : Hid (Below w.heap.size w w6) := (by rw [hw6]; exact setRow_below HB5.out (by have := HLT3.out; have := HLT5.out; omega) _); clear hw6 hX6 HA5 HB5 HT5 HX0)

    go_wp2_with fail
    refine (rbyteOf_any ((s.drop 53).take 2) _ (by simp; omega)).mono ?_; rintro e w7 ⟨rfl, hb7⟩
    rw [EF.out]
    have HA7 := hid (HA6.out.below hb7 HA6.out.lt)
    have HT7 := hid (HT6.out.below hb7 HT6.out.lt)
    have HX7 := hid (HX6.out.below hb7 HX6.out.lt)
    have HB7 := hid (HB6.out.trans (hb7.mono HB6.out.size))
    clear hb7 HA6 HT6 HX6 HB6
    go_wp2_with fail
    refine region_token_tail (fun _ u => Below w7.heap.size w7 u) 0 undef 7 (by kernel_rfl) (by kernel_rfl) (ext_drew _) ?_
    simp only [List.take_succ_cons, List.take_zero, List.drop_succ_cons, List.drop_zero]
    repeat (first
      | (refine tok_off (by decide) (fun _ => by rfl) ?_; try simp only [Act.put, List.setIfInBounds_toArray, List.set_cons_zero, List.set_cons_succ])
      | (refine tok_pure (v := ?_) (by decide) (fun _ => by rfl) ?_ ?_; rotate_left; (focus (intro x u; simp only [fam]; go_simp; with_reducible rfl)); try simp only [Act.put, List.setIfInBounds_toArray, List.set_cons_zero, List.set_cons_succ]))
    refine tok_call (fun y u k => bel_call k (EV.out ▸ rbyteOf_any (s.take 2) u (by simp; omega))) (by decide) (fun _ => by rfl) (fun y u => by simp only [fam]; go_simp) ?_
    try simp only [Act.put, List.setIfInBounds_toArray, List.set_cons_zero, List.set_cons_succ]
    refine tok_load 27 (.tmp 4) rfl (by decide) (fun _ => by rfl) (fun y u k => run_loadAt_mid u w3.heap.size 0 27 (b8s (traceT (pT s))) _ (fun j v hv => by rw [Nat.zero_add, (HT7.out.below k HT7.out.lt).cell j, ← hv]; simp) Tryz.underlying27 rfl (by rw [info_trace]; simp [traceT_length])) ?_
    try simp only [Act.put, List.setIfInBounds_toArray, List.set_cons_zero, List.set_cons_succ]
    refine tok_load 29 (.tmp 6) rfl (by decide) (fun _ => by rfl) (fun y u k => run_loadAt_mid u w5.heap.size 0 29 (b8s (spanT (pX s))) _ (fun j v hv => by rw [Nat.zero_add, (HX7.out.below k HX7.out.lt).cell j, ← hv]; simp) Tryz.underlying29 rfl (by rw [info_span]; simp [spanT_length])) ?_
    try simp only [Act.put, List.setIfInBounds_toArray, List.set_cons_zero, List.set_cons_succ]
    (refine tok_pure (v := ?_) (by decide) (fun _ => by rfl) ?_ ?_; rotate_left; (focus (intro x u; simp only [fam]; go_simp; with_reducible rfl)); try simp only [Act.put, List.setIfInBounds_toArray, List.set_cons_zero, List.set_cons_succ])
    refine tok_build 56 _ rfl #[(0, .int .u8 yV), (1, Av (traceT (pT s))), (2, Av (spanT (pX s))), (3, .int .u8 (yF % 2))] (fun _ => by simp only [List.map_toArray, List.map_cons, List.map_nil]; rfl) (built_rfull yV (yF % 2) (traceT (pT s)) (spanT (pX s)) (traceT_length _) (spanT_length _)) (by decide) (fun _ => by rfl) ?_
    try simp only [Act.put, List.setIfInBounds_toArray, List.set_cons_zero, List.set_cons_succ]
    refine tok_nil (fun y u k => ?_)
    simp only [fam]
    have HA8 := hid (HA7.out.below k HA7.out.lt)
    have HB8 := hid (HB7.out.trans (k.mono HB7.out.size))
    clear k HT7 HX7 HA7 HB7
    go_wp2_with (refine wpList_store_hv rfl 56 (.tmp 2) (.tmp 97) rfl w.heap.size _ yV (yF % 2) 0 0 (traceT (pT s)) (spanT (pX s)) (zb 16) (zb 8) rfl rfl HA8.out info_rhdr (traceT_length _) (spanT_length _) (zb_length _) (zb_length _) ?_; intro w9 hw9 hA9; have HA9 := hid hA9; have HW9 := hid hw9; clear hw9 hA9)
    exact bodyPost_ret (results_hv2 rfl _ _ _ _ _ yV (yF % 2) (traceT (pT s)) (spanT (pX s)) rfl HA9.out Tryz.underlying56 rfl info_rhdr (traceT_length _) (spanT_length _)) rfl ⟨by rw [HR2.out]; rfl, by rw [HW9.out]; exact setRow_below HB8.out (Nat.le_refl _) _⟩
theorem rhread_any (s : List UInt8) (w : World) (hs : s.length ≤ 140737488355328) :
    Calls Tryz.prog 28 #[Sv s] w fun e w' => e = .returned (hdrOut (readH s)) ∧ Below w.heap.size w w' := by
  cases hsp : splitOk s with
  | false => exact rhread_no s w hs hsp
  | true =>
    cases hd : digB (pV s ++ pF s) with
    | false => exact rhread_dig s w hs hsp hd
    | true =>
      by_cases hv : verBad s
      · exact rhread_ver s w hs hsp hd hv
      · cases he : digB (pT s ++ pX s) with
        | false => exact rhread_dig2 s w hs hsp hd hv he
        | true =>
          by_cases h1 : traceC (pT s) = 0
          · by_cases h2 : spanC (pX s) = 0
            · exact rhread_good s w hs hsp hd hv he h1 h2
            · exact rhread_idX s w hs hsp hd hv he h1 h2
          · exact rhread_idT s w hs hsp hd hv he h1
end Go.Proofs.YtgfdmdikiickpaaGreatDoor

/-! ParentLaw -/
namespace Go.Proofs.YtgfdmdikiickpaaGreatDoor
open Go.RowKit

theorem readH_len (s : List UInt8) : (readH s).2.1.length = 16 ∧ (readH s).2.2.1.length = 8 ∧ 0 ≤ (readH s).2.2.2.1 ∧ (readH s).2.2.2.1 ≤ 255 := by
  have hz : (hBad 0).2.1.length = 16 ∧ (hBad 0).2.2.1.length = 8 ∧ 0 ≤ (hBad 0).2.2.2.1 ∧ (hBad 0).2.2.2.1 ≤ 255 := by decide
  have b := oneV_bd (pF s)
  unfold readH
  (repeat' split) <;> first | exact hz | skip
  · exact ⟨traceT_length _, spanT_length _, by show 0 ≤ oneV (pF s) % 2; omega, by show oneV (pF s) % 2 ≤ 255; omega⟩
  · exact ⟨traceT_length _, spanT_length _, b.1, b.2⟩
theorem hexEnc_two (b : UInt8) : (hexEnc [b]).length = 2 := by rw [hexEnc_length]; rfl
theorem readH_text (t x : List UInt8) (f : Int) (ht : t.length = 16) (hx : x.length = 8) (f0 : 0 ≤ f) (f1 : f ≤ 255) (hm : mayB t x = true) : readH (textH t x f) = (0, t, x, f, 0) := by
  have hs : textH t x f = [48, 48, 45] ++ hexEnc t ++ [45] ++ hexEnc x ++ [45] ++ hexEnc [bt f] := if_pos hm
  have lE : (hexEnc t).length = 32 := by rw [hexEnc_length, ht]
  have lD : (hexEnc x).length = 16 := by rw [hexEnc_length, hx]
  have lG := hexEnc_two (bt f)
  have hE := hexDec_enc t
  have hD := hexDec_enc x
  have hG := hexDec_enc [bt f]
  generalize hexEnc t = E at *
  generalize hexEnc x = D at *
  generalize hexEnc [bt f] = G at *
  have htz : t ≠ zb 16 ∧ x ≠ zb 8 := by
    simp only [mayB, Bool.and_eq_true, Bool.not_eq_true', beq_eq_false_iff_ne] at hm
    exact hm
  obtain ⟨s, rfl⟩ : ∃ s, s = textH t x f := ⟨_, rfl⟩
  rw [hs]
  clear hs
  have hlen : ([48, 48, 45] ++ E ++ [45] ++ D ++ [45] ++ G).length = 55 := by simp [lE, lD, lG]
  have e35 : E ++ ([45] ++ D ++ [45] ++ G) = E ++ 45 :: (D ++ 45 :: G) := by simp
  have hV : pV ([48, 48, 45] ++ E ++ [45] ++ D ++ [45] ++ G) = [48, 48] := by simp [pV]
  have hT : pT ([48, 48, 45] ++ E ++ [45] ++ D ++ [45] ++ G) = E := by
    unfold pT
    have : List.drop 3 ([48, 48, 45] ++ E ++ [45] ++ D ++ [45] ++ G) = E ++ ([45] ++ D ++ [45] ++ G) := by simp
    rw [this, List.take_append_of_le_length (by omega), List.take_of_length_le (by omega)]
  have d36 : List.drop 36 ([48, 48, 45] ++ E ++ [45] ++ D ++ [45] ++ G) = D ++ ([45] ++ G) := by
    have : [48, 48, 45] ++ E ++ [45] ++ D ++ [45] ++ G = ([48, 48, 45] ++ E ++ [45]) ++ (D ++ ([45] ++ G)) := by simp
    rw [this, List.drop_append_of_le_length (by simp [lE]), List.drop_of_length_le (by simp [lE])]; rfl
  have hX : pX ([48, 48, 45] ++ E ++ [45] ++ D ++ [45] ++ G) = D := by
    unfold pX
    rw [d36, List.take_append_of_le_length (by omega), List.take_of_length_le (by omega)]
  have d53 : List.drop 53 ([48, 48, 45] ++ E ++ [45] ++ D ++ [45] ++ G) = G := by
    rw [List.drop_append_of_le_length (by simp [lE, lD]), List.drop_of_length_le (by simp [lE, lD])]; rfl
  have hF : pF ([48, 48, 45] ++ E ++ [45] ++ D ++ [45] ++ G) = G := by
    unfold pF
    rw [d53, List.take_of_length_le (by omega)]
  have b2 : byteAt ([48, 48, 45] ++ E ++ [45] ++ D ++ [45] ++ G) 2 = 45 := by simp [byteAt]
  have b35 : byteAt ([48, 48, 45] ++ E ++ [45] ++ D ++ [45] ++ G) 35 = 45 := by
    have : [48, 48, 45] ++ E ++ [45] ++ D ++ [45] ++ G = ([48, 48, 45] ++ E) ++ ([45] ++ D ++ [45] ++ G) := by simp
    rw [this, byteAt_app_right _ _ _ (by simp [lE])]
    simp [lE, byteAt]
  have b52 : byteAt ([48, 48, 45] ++ E ++ [45] ++ D ++ [45] ++ G) 52 = 45 := by
    have : [48, 48, 45] ++ E ++ [45] ++ D ++ [45] ++ G = ([48, 48, 45] ++ E ++ [45] ++ D) ++ ([45] ++ G) := by simp
    rw [this, byteAt_app_right _ _ _ (by simp [lE, lD])]
    simp [lE, lD, byteAt]
  generalize [48, 48, 45] ++ E ++ [45] ++ D ++ [45] ++ G = S at *
  have hsp : splitOk S = true := by unfold splitOk; exact decide_eq_true ⟨by omega, b2, b35, b52⟩
  have v1 : oneOk [48, 48] = true := by decide
  have v2 : oneV [48, 48] = 0 := by decide
  have g1 : oneOk G = true := by unfold oneOk; rw [hG]; rfl
  have g2 : oneV G = f := by unfold oneV; rw [hG]; exact bi_bt f f0 f1
  have tc : traceC E = 0 := by
    unfold traceC; rw [hE]
    simp only [lE, true_or, if_true, ht]
    rw [if_neg (by simpa [zb] using htz.1)]
  have tt : traceT E = t := by
    unfold traceT; rw [hE]
    simp only [lE, true_or, if_true, ht]
    rfl
  have xc : spanC D = 0 := by
    unfold spanC; rw [hD]
    simp only [lD, if_true]
    rw [if_neg htz.2]
  have xt : spanT D = x := by
    unfold spanT; rw [hD]
    simp only [lD, if_true]
  unfold readH
  rw [if_pos hsp, hV, hF, hT, hX, if_pos ⟨v1, g1⟩]
  rw [if_neg (by unfold verBad; rw [hV, v2, hlen]; simp), if_neg (by rw [tc, xc]; simp), if_pos ⟨tc, xc⟩, v2, tt, xt, g2]
  rfl
def pT0 : List UInt8 := [10, 247, 101, 25, 22, 205, 67, 221, 132, 72, 235, 33, 28, 128, 49, 156]
def pX0 : List UInt8 := [183, 173, 107, 113, 105, 32, 51, 49]
def s0 : List UInt8 := [48, 48, 45] ++ hexEnc pT0 ++ [45] ++ hexEnc pX0 ++ [45, 48, 49]
theorem s0_lit : s0 = [48, 48, 45, 48, 97, 102, 55, 54, 53, 49, 57, 49, 54, 99, 100, 52, 51, 100, 100, 56, 52, 52, 56, 101, 98, 50, 49, 49, 99, 56, 48, 51, 49, 57, 99, 45, 98, 55, 97, 100, 54, 98, 55, 49, 54, 57, 50, 48, 51, 51, 51, 49, 45, 48, 49] := by decide +kernel
theorem s0_text : textH pT0 pX0 1 = s0 := by decide +kernel
def s1 : List UInt8 := s0 ++ [45, 120]
def s2 : List UInt8 := 48 :: 49 :: ((s0.drop 2).take 51 ++ [102, 102, 45, 120])
def s3 : List UInt8 := 102 :: 102 :: s0.drop 2
theorem h0_read : hdrOut (readH s0) = .tuple #[Hv 0 pT0 pX0 1, .int .i64 0] := by
  rw [show readH s0 = (0, pT0, pX0, 1, 0) by decide +kernel]; rfl
theorem h1_read : hdrOut (readH s1) = .tuple #[Hv 0 (zb 16) (zb 8) 0, .int .i64 15] := by
  rw [show readH s1 = hBad 15 by decide +kernel]; rfl
theorem h2_read : hdrOut (readH s2) = .tuple #[Hv 1 pT0 pX0 1, .int .i64 0] := by
  rw [show readH s2 = (1, pT0, pX0, 1, 0) by decide +kernel]; rfl
theorem h3_read : hdrOut (readH s3) = .tuple #[Hv 0 (zb 16) (zb 8) 0, .int .i64 15] := by
  rw [show readH s3 = hBad 15 by decide +kernel]; rfl
end Go.Proofs.YtgfdmdikiickpaaGreatDoor
