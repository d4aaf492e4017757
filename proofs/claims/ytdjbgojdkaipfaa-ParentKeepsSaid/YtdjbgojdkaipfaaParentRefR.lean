/-
  Walk of the reference's Read of package parent.
-/
import Derived.Test.YtdjbgojdkaipfaaParentRef
namespace Go.Proofs.Ytdjbgojdkaipfaa
open Go.RowKit

set_option maxRecDepth 100000 in
theorem built_rzero : Try.prog.built 61 [] = some (hc 0 (zb 16) (zb 8) 0).toArray := by kernel_rfl
theorem hexDec_two (a b : UInt8) : hexDec [a, b] = if nibOk (bi a) && nibOk (bi b) then some [bt (nibV (bi a) * 16 + nibV (bi b))] else none := by
  simp only [hexDec]; split <;> rfl
theorem two_of {l : List UInt8} (h : l.length = 2) : ∃ a b, l = [a, b] := by
  match l, h with
  | [a, b], _ => exact ⟨a, b, rfl⟩
theorem two_ok {l : List UInt8} (h : l.length = 2) : oneOk l = digB l ∧ byO l = oneV l := by
  obtain ⟨a, b, rfl⟩ := two_of h
  unfold oneOk byO oneV
  rw [hexDec_two]
  cases ha : nibOk (bi a) <;> cases hb : nibOk (bi b) <;> simp [digB, ha, hb, byteAt]
theorem two_val {l : List UInt8} (h : l.length = 2) (hd : digB l = true) : (oneV l = 255 ↔ l = [102, 102]) ∧ (oneV l = 0 ↔ l = [48, 48]) := by
  obtain ⟨a, b, rfl⟩ := two_of h
  have hab : nibOk (bi a) = true ∧ nibOk (bi b) = true := by simpa [digB] using hd
  obtain ⟨ha, hb⟩ := hab
  have va := nibV_bd (bi a)
  have vb := nibV_bd (bi b)
  have da := dig_nib _ ha
  have db := dig_nib _ hb
  have e : oneV [a, b] = nibV (bi a) * 16 + nibV (bi b) := by
    unfold oneV
    rw [hexDec_two, ha, hb]
    exact bi_bt _ (by omega) (by omega)
  rw [e]
  have key : ∀ (c : UInt8) (n m : Int), nibV (bi c) = n → digI (nibV (bi c)) = bi c → digI n = m → bi c = m := fun c n m h1 h2 h3 => by rw [← h2, h1, h3]
  refine ⟨⟨fun h => ?_, ?_⟩, ⟨fun h => ?_, ?_⟩⟩
  · have ea : bi a = bi 102 := key a 15 102 (by omega) da rfl
    have eb : bi b = bi 102 := key b 15 102 (by omega) db rfl
    rw [bi_inj ea, bi_inj eb]
  · intro h
    injection h with h1 h2
    injection h2 with h2 _
    subst h1 h2
    decide
  · have ea : bi a = bi 48 := key a 0 48 (by omega) da rfl
    have eb : bi b = bi 48 := key b 0 48 (by omega) db rfl
    rw [bi_inj ea, bi_inj eb]
  · intro h
    injection h with h1 h2
    injection h2 with h2 _
    subst h1 h2
    decide
theorem digB_app (a b : List UInt8) : digB (a ++ b) = (digB a && digB b) := by simp [digB]
theorem hexDec_dig : ∀ l : List UInt8, l.length % 2 = 0 → (hexDec l).isSome = digB l
  | [], _ => rfl
  | [_], h => by simp at h
  | a :: b :: r, h => by
    have ih := hexDec_dig r (by simp only [List.length_cons] at h; omega)
    simp only [hexDec, digB, List.all_cons] at ih ⊢
    cases ha : nibOk (bi a) <;> cases hb : nibOk (bi b) <;> simp [ih]
theorem traceC_dig {s : List UInt8} (h : s.length = 32) : (traceC s = 3 ↔ digB s = false) := by
  have hd := hexDec_dig s (by omega)
  unfold traceC
  cases hx : hexDec s with
  | none => rw [hx] at hd; simp at hd; simp [← hd]
  | some b =>
    rw [hx] at hd
    simp only [Option.isSome_some] at hd
    rw [← hd]
    simp only [h, true_or, if_true]
    split <;> simp
theorem spanC_dig {s : List UInt8} (h : s.length = 16) : (spanC s = 3 ↔ digB s = false) := by
  have hd := hexDec_dig s (by omega)
  unfold spanC
  cases hx : hexDec s with
  | none => rw [hx] at hd; simp at hd; simp [← hd]
  | some b =>
    rw [hx] at hd
    simp only [Option.isSome_some] at hd
    rw [← hd]
    simp only [h, if_true]
    split <;> simp
set_option maxRecDepth 100000 in
set_option maxHeartbeats 4000000 in
theorem rhread_no (s : List UInt8) (w : World) (hs : s.length ≤ 140737488355328) (hsp : splitOk s = false) :
    Calls Try.prog 42 #[Sv s] w fun e w' => e = .returned (hdrOut (readH s)) ∧ Below w.heap.size w w' := by
  obtain ⟨W, hW⟩ : ∃ W, W = w.alloc (.cells #[.int .u8 0, .int .u8 0, .int .u8 0, .int .u8 0, .int .u8 0, .int .u8 0, .int .u8 0, .int .u8 0, .int .u8 0, .int .u8 0, .int .u8 0, .int .u8 0, .int .u8 0, .int .u8 0, .int .u8 0, .int .u8 0, .int .u8 0, .int .u8 0, .int .u8 0, .int .u8 0, .int .u8 0, .int .u8 0, .int .u8 0, .int .u8 0, .int .u8 0, .int .u8 0] 61) := ⟨_, rfl⟩
  have HW := hid hW
  have HA : Hid (Blk W w.heap.size 61 (hc 0 (zb 16) (zb 8) 0).toArray) := by rw [hW]; exact Blk.new w _ _
  have HBW : Hid (Below w.heap.size w W) := by rw [hW]; exact ext_alloc w _
  clear hW
  have h3 : 55 ≤ s.length → byteAt s 2 = 45 → byteAt s 35 = 45 → byteAt s 52 ≠ 45 := fun a b c d => by
    have : splitOk s = true := by unfold splitOk; exact decide_eq_true ⟨a, b, c, d⟩
    rw [hsp] at this; cases this
  have HR := hid (show hdrOut (readH s) = .tuple #[Hv 0 (zb 16) (zb 8) 0, .int .i64 3] by rw [← hdrOut_bad]; unfold readH; rw [hsp]; rfl)
  clear hsp
  by_cases h0 : s.length < 55
  · have q0 : (s.length : Int) < 55 := by omega
    go_enter Try.func42, Try.ntmps42
    go_wp2_with fail
    rw [← HW.out]
    refine region_steady (fun u => Below W.heap.size W u) (by kernel_rfl) (by kernel_rfl) (ext_drew _) ?_
    repeat (first
      | (refine steady_off (by rfl) ?_; try simp only [Act.put, List.setIfInBounds_toArray, List.set_cons_zero, List.set_cons_succ])
      | (refine steady_pure (v := ?_) (by rfl) ?_ ?_; rotate_left; (focus (intro u; go_simp; with_reducible rfl)); try simp only [Act.put, List.setIfInBounds_toArray, List.set_cons_zero, List.set_cons_succ]))
    refine steady_nil (fun u1 hu1 => ?_)
    have HA1 := hid (HA.out.below hu1 HA.out.lt)
    have HB1 := hid (HBW.out.trans (hu1.mono HBW.out.size))
    clear hu1
    go_wp2_with (first
      | (refine wpList_build_to rfl 61 #[] rfl [] _ rfl built_rzero ?_; change wpList _ _ _ _ (Act.put _ _ (Hv 0 (zb 16) (zb 8) 0)) _)
      | (refine wpList_store_hv rfl 61 (.tmp 2) (.tmp 36) rfl w.heap.size _ 0 0 0 0 (zb 16) (zb 8) (zb 16) (zb 8) rfl rfl HA1.out info_rhdr (zb_length _) (zb_length _) (zb_length _) (zb_length _) ?_; intro w9 hw9 hA9; have HA9 := hid hA9; have HW9 := hid hw9; clear hw9 hA9))
    exact bodyPost_ret (results_hv2 rfl _ _ _ _ _ 0 0 (zb 16) (zb 8) rfl HA9.out Try.underlying61 rfl info_rhdr (zb_length _) (zb_length _)) rfl ⟨by rw [HR.out]; rfl, by rw [HW9.out]; exact setRow_below HB1.out (Nat.le_refl _) _⟩
  have k0 : 55 ≤ s.length := by omega
  have q0 : ¬ ((s.length : Int) < 55) := by omega
  have HQ0 := hid (show decide ((s.length : Int) < 55) = false from decide_eq_false q0)
  have q2 : (2 : Int) < (s.length : Int) := by omega
  have q35 : (35 : Int) < (s.length : Int) := by omega
  have q52 : (52 : Int) < (s.length : Int) := by omega
  by_cases h1 : byteAt s 2 = 45
  case neg =>
    have b1 : (byteAt s 2 != 45) = true := by simpa using h1
    clear h1
    go_enter Try.func42, Try.ntmps42
    go_wp2_with fail
    rw [← HW.out]
    refine region_steady (fun u => Below W.heap.size W u) (by kernel_rfl) (by kernel_rfl) (ext_drew _) ?_
    have qd0 := HQ0.out
    repeat (first
      | (refine steady_off (by rfl) ?_; try simp only [Act.put, List.setIfInBounds_toArray, List.set_cons_zero, List.set_cons_succ])
      | (refine steady_pure (v := ?_) (by rfl) ?_ ?_; rotate_left; (focus (intro u; go_simp; with_reducible rfl)); try simp only [Act.put, List.setIfInBounds_toArray, List.set_cons_zero, List.set_cons_succ]))
    refine steady_nil (fun u1 hu1 => ?_)
    clear qd0
    have HA1 := hid (HA.out.below hu1 HA.out.lt)
    have HB1 := hid (HBW.out.trans (hu1.mono HBW.out.size))
    clear hu1
    go_wp2_with (first
      | (refine wpList_build_to rfl 61 #[] rfl [] _ rfl built_rzero ?_; change wpList _ _ _ _ (Act.put _ _ (Hv 0 (zb 16) (zb 8) 0)) _)
      | (refine wpList_store_hv rfl 61 (.tmp 2) (.tmp 36) rfl w.heap.size _ 0 0 0 0 (zb 16) (zb 8) (zb 16) (zb 8) rfl rfl HA1.out info_rhdr (zb_length _) (zb_length _) (zb_length _) (zb_length _) ?_; intro w9 hw9 hA9; have HA9 := hid hA9; have HW9 := hid hw9; clear hw9 hA9))
    exact bodyPost_ret (results_hv2 rfl _ _ _ _ _ 0 0 (zb 16) (zb 8) rfl HA9.out Try.underlying61 rfl info_rhdr (zb_length _) (zb_length _)) rfl ⟨by rw [HR.out]; rfl, by rw [HW9.out]; exact setRow_below HB1.out (Nat.le_refl _) _⟩
  have b1 : (byteAt s 2 != 45) = false := by simpa using h1
  clear h1
  by_cases h2 : byteAt s 35 = 45
  case neg =>
    have b2 : (byteAt s 35 != 45) = true := by simpa using h2
    clear h2
    go_enter Try.func42, Try.ntmps42
    go_wp2_with fail
    rw [← HW.out]
    refine region_steady (fun u => Below W.heap.size W u) (by kernel_rfl) (by kernel_rfl) (ext_drew _) ?_
    have qd0 := HQ0.out
    repeat (first
      | (refine steady_off (by rfl) ?_; try simp only [Act.put, List.setIfInBounds_toArray, List.set_cons_zero, List.set_cons_succ])
      | (refine steady_pure (v := ?_) (by rfl) ?_ ?_; rotate_left; (focus (intro u; go_simp; with_reducible rfl)); try simp only [Act.put, List.setIfInBounds_toArray, List.set_cons_zero, List.set_cons_succ]))
    refine steady_nil (fun u1 hu1 => ?_)
    clear qd0
    have HA1 := hid (HA.out.below hu1 HA.out.lt)
    have HB1 := hid (HBW.out.trans (hu1.mono HBW.out.size))
    clear hu1
    go_wp2_with (first
      | (refine wpList_build_to rfl 61 #[] rfl [] _ rfl built_rzero ?_; change wpList _ _ _ _ (Act.put _ _ (Hv 0 (zb 16) (zb 8) 0)) _)
      | (refine wpList_store_hv rfl 61 (.tmp 2) (.tmp 36) rfl w.heap.size _ 0 0 0 0 (zb 16) (zb 8) (zb 16) (zb 8) rfl rfl HA1.out info_rhdr (zb_length _) (zb_length _) (zb_length _) (zb_length _) ?_; intro w9 hw9 hA9; have HA9 := hid hA9; have HW9 := hid hw9; clear hw9 hA9))
    exact bodyPost_ret (results_hv2 rfl _ _ _ _ _ 0 0 (zb 16) (zb 8) rfl HA9.out Try.underlying61 rfl info_rhdr (zb_length _) (zb_length _)) rfl ⟨by rw [HR.out]; rfl, by rw [HW9.out]; exact setRow_below HB1.out (Nat.le_refl _) _⟩
  have b2 : (byteAt s 35 != 45) = false := by simpa using h2
  clear h2
  have b3 : (byteAt s 52 != 45) = true := by simpa using h3 k0 (by simpa using b1) (by simpa using b2)
  clear h3
  go_enter Try.func42, Try.ntmps42
  go_wp2_with fail
  rw [← HW.out]
  refine region_steady (fun u => Below W.heap.size W u) (by kernel_rfl) (by kernel_rfl) (ext_drew _) ?_
  have qd0 := HQ0.out
  repeat (first
    | (refine steady_off (by rfl) ?_; try simp only [Act.put, List.setIfInBounds_toArray, List.set_cons_zero, List.set_cons_succ])
    | (refine steady_pure (v := ?_) (by rfl) ?_ ?_; rotate_left; (focus (intro u; go_simp; with_reducible rfl)); try simp only [Act.put, List.setIfInBounds_toArray, List.set_cons_zero, List.set_cons_succ]))
  refine steady_nil (fun u1 hu1 => ?_)
  clear qd0
  have HA1 := hid (HA.out.below hu1 HA.out.lt)
  have HB1 := hid (HBW.out.trans (hu1.mono HBW.out.size))
  clear hu1
  go_wp2_with (first
    | (refine wpList_build_to rfl 61 #[] rfl [] _ rfl built_rzero ?_; change wpList _ _ _ _ (Act.put _ _ (Hv 0 (zb 16) (zb 8) 0)) _)
    | (refine wpList_store_hv rfl 61 (.tmp 2) (.tmp 36) rfl w.heap.size _ 0 0 0 0 (zb 16) (zb 8) (zb 16) (zb 8) rfl rfl HA1.out info_rhdr (zb_length _) (zb_length _) (zb_length _) (zb_length _) ?_; intro w9 hw9 hA9; have HA9 := hid hA9; have HW9 := hid hw9; clear hw9 hA9))
  exact bodyPost_ret (results_hv2 rfl _ _ _ _ _ 0 0 (zb 16) (zb 8) rfl HA9.out Try.underlying61 rfl info_rhdr (zb_length _) (zb_length _)) rfl ⟨by rw [HR.out]; rfl, by rw [HW9.out]; exact setRow_below HB1.out (Nat.le_refl _) _⟩
set_option maxRecDepth 100000 in
set_option maxHeartbeats 4000000 in
theorem rhread_dig (s : List UInt8) (w : World) (hs : s.length ≤ 140737488355328) (hsp : splitOk s = true) (hd : digB (pV s ++ pF s) = false) :
    Calls Try.prog 42 #[Sv s] w fun e w' => e = .returned (hdrOut (readH s)) ∧ Below w.heap.size w w' := by
  obtain ⟨W, hW⟩ : ∃ W, W = w.alloc (.cells #[.int .u8 0, .int .u8 0, .int .u8 0, .int .u8 0, .int .u8 0, .int .u8 0, .int .u8 0, .int .u8 0, .int .u8 0, .int .u8 0, .int .u8 0, .int .u8 0, .int .u8 0, .int .u8 0, .int .u8 0, .int .u8 0, .int .u8 0, .int .u8 0, .int .u8 0, .int .u8 0, .int .u8 0, .int .u8 0, .int .u8 0, .int .u8 0, .int .u8 0, .int .u8 0] 61) := ⟨_, rfl⟩
  have HW := hid hW
  have HA : Hid (Blk W w.heap.size 61 (hc 0 (zb 16) (zb 8) 0).toArray) := by rw [hW]; exact Blk.new w _ _
  have HBW : Hid (Below w.heap.size w W) := by rw [hW]; exact ext_alloc w _
  clear hW
  have hsp' : 55 ≤ s.length ∧ byteAt s 2 = 45 ∧ byteAt s 35 = 45 ∧ byteAt s 52 = 45 := by unfold splitOk at hsp; exact of_decide_eq_true hsp
  obtain ⟨k0, h1, h2, h3⟩ := hsp'
  have q0 : ¬ ((s.length : Int) < 55) := by omega
  have HQ0 := hid (show decide ((s.length : Int) < 55) = false from decide_eq_false q0)
  have q2 : (2 : Int) < (s.length : Int) := by omega
  have q35 : (35 : Int) < (s.length : Int) := by omega
  have q52 : (52 : Int) < (s.length : Int) := by omega
  have q55 : (55 : Int) ≤ (s.length : Int) := by omega
  have q22 : (2 : Int) ≤ (s.length : Int) := by omega
  have q35' : (35 : Int) ≤ (s.length : Int) := by omega
  have q52' : (52 : Int) ≤ (s.length : Int) := by omega
  have b1 : (byteAt s 2 != 45) = false := by simpa using h1
  have b2 : (byteAt s 35 != 45) = false := by simpa using h2
  have b3 : (byteAt s 52 != 45) = false := by simpa using h3
  clear h1 h2 h3
  have lV : (pV s).length = 2 := by unfold pV; simp; omega
  have lF : (pF s).length = 2 := by unfold pF; simp; omega
  have HR := hid (show hdrOut (readH s) = .tuple #[Hv 0 (zb 16) (zb 8) 0, .int .i64 3] by
    rw [← hdrOut_bad]; unfold readH; rw [if_pos hsp, (two_ok lV).1, (two_ok lF).1]
    rw [digB_app] at hd
    rw [if_neg (by intro h; rw [h.1, h.2] at hd; cases hd)])
  have HD := hid (show digB (s.take 2 ++ (s.drop 53).take 2) = false from hd)
  clear hsp hd lV lF
  go_enter Try.func42, Try.ntmps42
  go_wp2_with fail
  rw [← HW.out]
  refine region_steady (fun u => Below W.heap.size W u) (by kernel_rfl) (by kernel_rfl) (ext_drew _) ?_
  have qd0 := HQ0.out
  repeat (first
    | (refine steady_off (by rfl) ?_; try simp only [Act.put, List.setIfInBounds_toArray, List.set_cons_zero, List.set_cons_succ])
    | (refine steady_pure (v := ?_) (by rfl) ?_ ?_; rotate_left; (focus (intro u; go_simp; with_reducible rfl)); try simp only [Act.put, List.setIfInBounds_toArray, List.set_cons_zero, List.set_cons_succ]))
  (refine steady_add _ _ _ _ rfl (by rfl) (by rfl) ?_ (by rfl) ?_; (focus (simp only [List.length_append, List.length_cons, List.length_nil, List.length_take, List.length_drop]; omega)); try simp only [Act.put, List.setIfInBounds_toArray, List.set_cons_zero, List.set_cons_succ])
  refine steady_call (fun u hu => bel_call hu (HD.out ▸ rdigits_bel _ u (by simp only [List.length_append, List.length_take, List.length_drop]; omega))) (by rfl) (fun u => by go_simp) ?_
  try simp only [Act.put, List.setIfInBounds_toArray, List.set_cons_zero, List.set_cons_succ]
  repeat (first
    | (refine steady_off (by rfl) ?_; try simp only [Act.put, List.setIfInBounds_toArray, List.set_cons_zero, List.set_cons_succ])
    | (refine steady_pure (v := ?_) (by rfl) ?_ ?_; rotate_left; (focus (intro u; go_simp; with_reducible rfl)); try simp only [Act.put, List.setIfInBounds_toArray, List.set_cons_zero, List.set_cons_succ]))
  refine steady_nil (fun u1 hu1 => ?_)
  clear qd0
  have HA1 := hid (HA.out.below hu1 HA.out.lt)
  have HB1 := hid (HBW.out.trans (hu1.mono HBW.out.size))
  clear hu1 HD HA HBW
  go_wp2_with (first
    | (refine wpList_build_to rfl 61 #[] rfl [] _ rfl built_rzero ?_; change wpList _ _ _ _ (Act.put _ _ (Hv 0 (zb 16) (zb 8) 0)) _)
    | (refine wpList_store_hv rfl 61 (.tmp 2) (.tmp 36) rfl w.heap.size _ 0 0 0 0 (zb 16) (zb 8) (zb 16) (zb 8) rfl rfl HA1.out info_rhdr (zb_length _) (zb_length _) (zb_length _) (zb_length _) ?_; intro w9 hw9 hA9; have HA9 := hid hA9; have HW9 := hid hw9; clear hw9 hA9))
  exact bodyPost_ret (results_hv2 rfl _ _ _ _ _ 0 0 (zb 16) (zb 8) rfl HA9.out Try.underlying61 rfl info_rhdr (zb_length _) (zb_length _)) rfl ⟨by rw [HR.out]; rfl, by rw [HW9.out]; exact setRow_below HB1.out (Nat.le_refl _) _⟩
set_option maxRecDepth 100000 in
set_option maxHeartbeats 4000000 in
theorem rhread_ver (s : List UInt8) (w : World) (hs : s.length ≤ 140737488355328) (hsp : splitOk s = true) (hd : digB (pV s ++ pF s) = true) (hv : verBad s) :
    Calls Try.prog 42 #[Sv s] w fun e w' => e = .returned (hdrOut (readH s)) ∧ Below w.heap.size w w' := by
  obtain ⟨W, hW⟩ : ∃ W, W = w.alloc (.cells #[.int .u8 0, .int .u8 0, .int .u8 0, .int .u8 0, .int .u8 0, .int .u8 0, .int .u8 0, .int .u8 0, .int .u8 0, .int .u8 0, .int .u8 0, .int .u8 0, .int .u8 0, .int .u8 0, .int .u8 0, .int .u8 0, .int .u8 0, .int .u8 0, .int .u8 0, .int .u8 0, .int .u8 0, .int .u8 0, .int .u8 0, .int .u8 0, .int .u8 0, .int .u8 0] 61) := ⟨_, rfl⟩
  have HW := hid hW
  have HA : Hid (Blk W w.heap.size 61 (hc 0 (zb 16) (zb 8) 0).toArray) := by rw [hW]; exact Blk.new w _ _
  have HBW : Hid (Below w.heap.size w W) := by rw [hW]; exact ext_alloc w _
  clear hW
  have hsp' : 55 ≤ s.length ∧ byteAt s 2 = 45 ∧ byteAt s 35 = 45 ∧ byteAt s 52 = 45 := by unfold splitOk at hsp; exact of_decide_eq_true hsp
  obtain ⟨k0, h1, h2, h3⟩ := hsp'
  have q0 : ¬ ((s.length : Int) < 55) := by omega
  have HQ0 := hid (show decide ((s.length : Int) < 55) = false from decide_eq_false q0)
  have q2 : (2 : Int) < (s.length : Int) := by omega
  have q35 : (35 : Int) < (s.length : Int) := by omega
  have q52 : (52 : Int) < (s.length : Int) := by omega
  have q55 : (55 : Int) ≤ (s.length : Int) := by omega
  have q22 : (2 : Int) ≤ (s.length : Int) := by omega
  have q35' : (35 : Int) ≤ (s.length : Int) := by omega
  have q52' : (52 : Int) ≤ (s.length : Int) := by omega
  have b1 : (byteAt s 2 != 45) = false := by simpa using h1
  have b2 : (byteAt s 35 != 45) = false := by simpa using h2
  have b3 : (byteAt s 52 != 45) = false := by simpa using h3
  clear h1 h2 h3
  have lV : (pV s).length = 2 := by unfold pV; simp; omega
  have lF : (pF s).length = 2 := by unfold pF; simp; omega
  have hdd : digB (pV s) = true ∧ digB (pF s) = true := by rw [digB_app] at hd; simpa using hd
  have HD := hid (show digB (s.take 2 ++ (s.drop 53).take 2) = true from hd)
  obtain ⟨t1, t2⟩ := two_val lV hdd.1
  have HR := hid (show hdrOut (readH s) = .tuple #[Hv 0 (zb 16) (zb 8) 0, .int .i64 15] by
    rw [← hdrOut_bad]; unfold readH; rw [if_pos hsp, (two_ok lV).1, (two_ok lF).1, if_pos hdd, if_pos hv])
  by_cases hff : pV s = [102, 102]
  · have qf : (s.take 2 == [102, 102]) = true := by rw [show s.take 2 = pV s from rfl, hff]; rfl
    clear hff t1 t2 hv hdd hsp hd lV lF
    go_enter Try.func42, Try.ntmps42
    go_wp2_with fail
    rw [← HW.out]
    refine region_steady (fun u => Below W.heap.size W u) (by kernel_rfl) (by kernel_rfl) (ext_drew _) ?_
    have qd0 := HQ0.out
    repeat (first
      | (refine steady_off (by rfl) ?_; try simp only [Act.put, List.setIfInBounds_toArray, List.set_cons_zero, List.set_cons_succ])
      | (refine steady_pure (v := ?_) (by rfl) ?_ ?_; rotate_left; (focus (intro u; go_simp; with_reducible rfl)); try simp only [Act.put, List.setIfInBounds_toArray, List.set_cons_zero, List.set_cons_succ]))
    (refine steady_add _ _ _ _ rfl (by rfl) (by rfl) ?_ (by rfl) ?_; (focus (simp only [List.length_append, List.length_cons, List.length_nil, List.length_take, List.length_drop]; omega)); try simp only [Act.put, List.setIfInBounds_toArray, List.set_cons_zero, List.set_cons_succ])
    refine steady_call (fun u hu => bel_call hu (HD.out ▸ rdigits_bel _ u (by simp only [List.length_append, List.length_take, List.length_drop]; omega))) (by rfl) (fun u => by go_simp) ?_
    try simp only [Act.put, List.setIfInBounds_toArray, List.set_cons_zero, List.set_cons_succ]
    repeat (first
      | (refine steady_off (by rfl) ?_; try simp only [Act.put, List.setIfInBounds_toArray, List.set_cons_zero, List.set_cons_succ])
      | (refine steady_pure (v := ?_) (by rfl) ?_ ?_; rotate_left; (focus (intro u; go_simp; with_reducible rfl)); try simp only [Act.put, List.setIfInBounds_toArray, List.set_cons_zero, List.set_cons_succ]))
    refine steady_nil (fun u1 hu1 => ?_)
    clear qd0
    have HA1 := hid (HA.out.below hu1 HA.out.lt)
    have HB1 := hid (HBW.out.trans (hu1.mono HBW.out.size))
    clear hu1 HD HA HBW
    go_wp2_with (first
      | (refine wpList_build_to rfl 61 #[] rfl [] _ rfl built_rzero ?_; change wpList _ _ _ _ (Act.put _ _ (Hv 0 (zb 16) (zb 8) 0)) _)
      | (refine wpList_store_hv rfl 61 (.tmp 2) (.tmp 55) rfl w.heap.size _ 0 0 0 0 (zb 16) (zb 8) (zb 16) (zb 8) rfl rfl HA1.out info_rhdr (zb_length _) (zb_length _) (zb_length _) (zb_length _) ?_; intro w9 hw9 hA9; have HA9 := hid hA9; have HW9 := hid hw9; clear hw9 hA9))
    exact bodyPost_ret (results_hv2 rfl _ _ _ _ _ 0 0 (zb 16) (zb 8) rfl HA9.out Try.underlying61 rfl info_rhdr (zb_length _) (zb_length _)) rfl ⟨by rw [HR.out]; rfl, by rw [HW9.out]; exact setRow_below HB1.out (Nat.le_refl _) _⟩
  have qf : (s.take 2 == [102, 102]) = false := beq_eq_false_iff_ne.2 hff
  have hlen : 55 < s.length := by
    rcases hv with h | h | h
    · exact absurd (t1.1 h) hff
    · exact h.2
    · exact h.1
  have ql : (55 : Int) < (s.length : Int) := by omega
  by_cases h00 : pV s = [48, 48]
  · have qz : (s.take 2 == [48, 48]) = true := by rw [show s.take 2 = pV s from rfl, h00]; rfl
    clear hff h00 t1 t2 hv hdd hsp hd lV lF hlen
    go_enter Try.func42, Try.ntmps42
    go_wp2_with fail
    rw [← HW.out]
    refine region_steady (fun u => Below W.heap.size W u) (by kernel_rfl) (by kernel_rfl) (ext_drew _) ?_
    have qd0 := HQ0.out
    repeat (first
      | (refine steady_off (by rfl) ?_; try simp only [Act.put, List.setIfInBounds_toArray, List.set_cons_zero, List.set_cons_succ])
      | (refine steady_pure (v := ?_) (by rfl) ?_ ?_; rotate_left; (focus (intro u; go_simp; with_reducible rfl)); try simp only [Act.put, List.setIfInBounds_toArray, List.set_cons_zero, List.set_cons_succ]))
    (refine steady_add _ _ _ _ rfl (by rfl) (by rfl) ?_ (by rfl) ?_; (focus (simp only [List.length_append, List.length_cons, List.length_nil, List.length_take, List.length_drop]; omega)); try simp only [Act.put, List.setIfInBounds_toArray, List.set_cons_zero, List.set_cons_succ])
    refine steady_call (fun u hu => bel_call hu (HD.out ▸ rdigits_bel _ u (by simp only [List.length_append, List.length_take, List.length_drop]; omega))) (by rfl) (fun u => by go_simp) ?_
    try simp only [Act.put, List.setIfInBounds_toArray, List.set_cons_zero, List.set_cons_succ]
    repeat (first
      | (refine steady_off (by rfl) ?_; try simp only [Act.put, List.setIfInBounds_toArray, List.set_cons_zero, List.set_cons_succ])
      | (refine steady_pure (v := ?_) (by rfl) ?_ ?_; rotate_left; (focus (intro u; go_simp; with_reducible rfl)); try simp only [Act.put, List.setIfInBounds_toArray, List.set_cons_zero, List.set_cons_succ]))
    refine steady_nil (fun u1 hu1 => ?_)
    clear qd0
    have HA1 := hid (HA.out.below hu1 HA.out.lt)
    have HB1 := hid (HBW.out.trans (hu1.mono HBW.out.size))
    clear hu1 HD HA HBW
    go_wp2_with (first
      | (refine wpList_build_to rfl 61 #[] rfl [] _ rfl built_rzero ?_; change wpList _ _ _ _ (Act.put _ _ (Hv 0 (zb 16) (zb 8) 0)) _)
      | (refine wpList_store_hv rfl 61 (.tmp 2) (.tmp 55) rfl w.heap.size _ 0 0 0 0 (zb 16) (zb 8) (zb 16) (zb 8) rfl rfl HA1.out info_rhdr (zb_length _) (zb_length _) (zb_length _) (zb_length _) ?_; intro w9 hw9 hA9; have HA9 := hid hA9; have HW9 := hid hw9; clear hw9 hA9))
    exact bodyPost_ret (results_hv2 rfl _ _ _ _ _ 0 0 (zb 16) (zb 8) rfl HA9.out Try.underlying61 rfl info_rhdr (zb_length _) (zb_length _)) rfl ⟨by rw [HR.out]; rfl, by rw [HW9.out]; exact setRow_below HB1.out (Nat.le_refl _) _⟩
  have qz : (s.take 2 == [48, 48]) = false := beq_eq_false_iff_ne.2 h00
  have qd : (byteAt s 55 != 45) = true := by
    rcases hv with h | h | h
    · exact absurd (t1.1 h) hff
    · exact absurd (t2.1 h.1) h00
    · simpa using h.2
  clear hff h00 t1 t2 hv hdd hsp hd lV lF hlen
  go_enter Try.func42, Try.ntmps42
  go_wp2_with fail
  rw [← HW.out]
  refine region_steady (fun u => Below W.heap.size W u) (by kernel_rfl) (by kernel_rfl) (ext_drew _) ?_
  have qd0 := HQ0.out
  repeat (first
    | (refine steady_off (by rfl) ?_; try simp only [Act.put, List.setIfInBounds_toArray, List.set_cons_zero, List.set_cons_succ])
    | (refine steady_pure (v := ?_) (by rfl) ?_ ?_; rotate_left; (focus (intro u; go_simp; with_reducible rfl)); try simp only [Act.put, List.setIfInBounds_toArray, List.set_cons_zero, List.set_cons_succ]))
  (refine steady_add _ _ _ _ rfl (by rfl) (by rfl) ?_ (by rfl) ?_; (focus (simp only [List.length_append, List.length_cons, List.length_nil, List.length_take, List.length_drop]; omega)); try simp only [Act.put, List.setIfInBounds_toArray, List.set_cons_zero, List.set_cons_succ])
  refine steady_call (fun u hu => bel_call hu (HD.out ▸ rdigits_bel _ u (by simp only [List.length_append, List.length_take, List.length_drop]; omega))) (by rfl) (fun u => by go_simp) ?_
  try simp only [Act.put, List.setIfInBounds_toArray, List.set_cons_zero, List.set_cons_succ]
  repeat (first
    | (refine steady_off (by rfl) ?_; try simp only [Act.put, List.setIfInBounds_toArray, List.set_cons_zero, List.set_cons_succ])
    | (refine steady_pure (v := ?_) (by rfl) ?_ ?_; rotate_left; (focus (intro u; go_simp; with_reducible rfl)); try simp only [Act.put, List.setIfInBounds_toArray, List.set_cons_zero, List.set_cons_succ]))
  refine steady_nil (fun u1 hu1 => ?_)
  clear qd0
  have HA1 := hid (HA.out.below hu1 HA.out.lt)
  have HB1 := hid (HBW.out.trans (hu1.mono HBW.out.size))
  clear hu1 HD HA HBW
  go_wp2_with (first
    | (refine wpList_build_to rfl 61 #[] rfl [] _ rfl built_rzero ?_; change wpList _ _ _ _ (Act.put _ _ (Hv 0 (zb 16) (zb 8) 0)) _)
    | (refine wpList_store_hv rfl 61 (.tmp 2) (.tmp 55) rfl w.heap.size _ 0 0 0 0 (zb 16) (zb 8) (zb 16) (zb 8) rfl rfl HA1.out info_rhdr (zb_length _) (zb_length _) (zb_length _) (zb_length _) ?_; intro w9 hw9 hA9; have HA9 := hid hA9; have HW9 := hid hw9; clear hw9 hA9))
  exact bodyPost_ret (results_hv2 rfl _ _ _ _ _ 0 0 (zb 16) (zb 8) rfl HA9.out Try.underlying61 rfl info_rhdr (zb_length _) (zb_length _)) rfl ⟨by rw [HR.out]; rfl, by rw [HW9.out]; exact setRow_below HB1.out (Nat.le_refl _) _⟩
end Go.Proofs.Ytdjbgojdkaipfaa
