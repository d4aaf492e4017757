/-
  Texts for the laws of this seat, merged: Bref, BrefB, BrefC.
-/
import Derived.Test.YtgfdmdikiickpaaGreatDoorMA
import Derived.Test.YtgfdmdikiickpaaGreatDoorMC
import Derived.Test.YtgfdmdikiickpaaGreatDoorMJ
/-! Bref -/
namespace Go.Proofs.YtgfdmdikiickpaaGreatDoor
open Go.RowKit

set_option maxRecDepth 100000 in
set_option maxHeartbeats 1000000 in
theorem rletter_any (k : Int) (w : World) :
    Calls Tryz.prog 78 #[.int .i64 k] w fun e w' => e = .returned (Sv (letterS k)) ∧ w' = w := by
  by_cases h1 : k = 1
  · subst h1
    go_enter Tryz.func78, Tryz.ntmps78
    go_wp2_with fail
    go_ret
    exact ⟨rfl, rfl⟩
  · by_cases h2 : k = 2
    · subst h2
      go_enter Tryz.func78, Tryz.ntmps78
      go_wp2_with fail
      go_ret
      exact ⟨rfl, rfl⟩
    · by_cases h3 : k = 3
      · subst h3
        go_enter Tryz.func78, Tryz.ntmps78
        go_wp2_with fail
        go_ret
        exact ⟨rfl, rfl⟩
      · have HK := hid (letterS_zero (k := k) (by omega))
        go_enter Tryz.func78, Tryz.ntmps78
        go_wp2_with fail
        go_ret
        exact ⟨by rw [HK.out]; rfl, rfl⟩
set_option maxRecDepth 100000 in
set_option maxHeartbeats 2000000 in
theorem rkeep_any (s : List UInt8) (w : World) :
    Calls Tryz.prog 66 #[Sv s] w fun e w' => e = .returned (.int .i64 (keepS s)) ∧ Below w.heap.size w w' := by
  go_enter Tryz.func66, Tryz.ntmps66
  go_wp2_with fail
  go_loopw [3] (fun i wr => wr = w ∧ ∃ n : Nat, i = .int .i64 (n : Int) ∧ 1 ≤ n ∧ n ≤ 4 ∧ Hid (∀ j : Nat, 1 ≤ j → j < n → letterS j ≠ s)) (fun i _ => 5 - (intOf i).toNat)
  case atStart => exact ⟨rfl, 1, rfl, by omega, by omega, fun j h1 h2 => by omega⟩
  case round =>
    obtain ⟨rfl, n, rfl, h1, h4, HN⟩ := hrel
    rcases (by omega : n = 1 ∨ n = 2 ∨ n = 3 ∨ n = 4) with rfl | rfl | rfl | rfl
    · by_cases hs : s = [48]
      · subst hs
        go_wp2_with (go_at_call 78; refine (rletter_any 1 _).mono ?_; rintro e w1 ⟨rfl, rfl⟩; rw [show letterS 1 = [48] from rfl])
        go_ret
        exact ⟨rfl, Below.refl _ _⟩
      · have q := beq_no (Ne.symm hs)
        have HS := hid hs
        clear hs
        go_wp2_with (go_at_call 78; refine (rletter_any 1 _).mono ?_; rintro e w1 ⟨rfl, rfl⟩; rw [show letterS 1 = [48] from rfl])
        refine ⟨⟨trivial, 2, rfl, by omega, by omega, fun j j1 j2 e => ?_⟩, by simp [intOf]⟩
        obtain rfl : j = 1 := by omega
        exact HS.out (by rw [← e]; rfl)
    · by_cases hs : s = [49]
      · subst hs
        go_wp2_with (go_at_call 78; refine (rletter_any 2 _).mono ?_; rintro e w1 ⟨rfl, rfl⟩; rw [show letterS 2 = [49] from rfl])
        go_ret
        exact ⟨rfl, Below.refl _ _⟩
      · have q := beq_no (Ne.symm hs)
        have HS := hid hs
        clear hs
        go_wp2_with (go_at_call 78; refine (rletter_any 2 _).mono ?_; rintro e w1 ⟨rfl, rfl⟩; rw [show letterS 2 = [49] from rfl])
        refine ⟨⟨trivial, 3, rfl, by omega, by omega, fun j j1 j2 e => ?_⟩, by simp [intOf]⟩
        rcases (by omega : j = 1 ∨ j = 2) with rfl | rfl
        · exact HN.out 1 (by omega) (by omega) e
        · exact HS.out (by rw [← e]; rfl)
    · by_cases hs : s = [100]
      · subst hs
        go_wp2_with (go_at_call 78; refine (rletter_any 3 _).mono ?_; rintro e w1 ⟨rfl, rfl⟩; rw [show letterS 3 = [100] from rfl])
        go_ret
        exact ⟨rfl, Below.refl _ _⟩
      · have q := beq_no (Ne.symm hs)
        have HS := hid hs
        clear hs
        go_wp2_with (go_at_call 78; refine (rletter_any 3 _).mono ?_; rintro e w1 ⟨rfl, rfl⟩; rw [show letterS 3 = [100] from rfl])
        refine ⟨⟨trivial, 4, rfl, by omega, by omega, fun j j1 j2 e => ?_⟩, by simp [intOf]⟩
        rcases (by omega : j < 3 ∨ j = 3) with q | rfl
        · exact HN.out j j1 q e
        · exact HS.out (by rw [← e]; rfl)
    · have HK := hid (show keepS s = 0 by
        unfold keepS
        rw [if_neg (fun e => HN.out 1 (by omega) (by omega) (by rw [e]; rfl)), if_neg (fun e => HN.out 2 (by omega) (by omega) (by rw [e]; rfl)), if_neg (fun e => HN.out 3 (by omega) (by omega) (by rw [e]; rfl))])
      go_wp2_with fail
      go_ret
      exact ⟨by rw [HK.out]; rfl, Below.refl _ _⟩
set_option maxRecDepth 100000 in
set_option maxHeartbeats 2000000 in
theorem rtr_any (t : List UInt8) (w : World) (ht : t.length = 16) :
    Calls Tryz.prog 46 #[Av t] w fun e w' => e = .returned (.bool (named t)) ∧ Below w.heap.size w w' := by
  have HF := hid ((Frm.start w).new 27 (b8s t).toArray rfl)
  have HT := hid ht
  have hh := fun u => rhalves_any t u ht
  have HN := hid (show named t = !(decide (valH (t.take 8) = 0) && decide (valH (t.drop 8) = 0)) by unfold named; rw [tr_zero t ht])
  generalize valH (t.take 8) = a at hh HN
  generalize valH (t.drop 8) = b at hh HN
  clear ht
  go_enter Tryz.func46, Tryz.ntmps46
  by_cases ha : a = 0 <;> by_cases hb : b = 0
  all_goals
    go_wp2_with (first
      | (refine at_load 27 (by rfl) ?_; refine wpList_loadE rfl rfl (HF.out.load16 0 rfl HT.out) rfl ?_)
      | (go_at_call 48; refine (hh _).mono ?_; rintro e w1 ⟨rfl, hb1⟩; have HF1 := hid (HF.out.call hb1); clear hb1))
    go_ret
    exact ⟨by rw [HN.out]; simp [ha, hb], HF1.out.bel⟩
end Go.Proofs.YtgfdmdikiickpaaGreatDoor

/-! BrefB -/
namespace Go.Proofs.YtgfdmdikiickpaaGreatDoor
open Go.RowKit

set_option maxRecDepth 100000 in
set_option maxHeartbeats 4000000 in
theorem rmayc_any (t x p : List UInt8) (k : Int) (w : World) (hl : Okc t x p) :
    Calls Tryz.prog 19 #[Cv t x p k] w fun e w' => e = .returned (.bool (mayC t x p k)) ∧ Below w.heap.size w w' := by
  have HF := hid ((Frm.start w).new 31 (cc t x p k).toArray rfl)
  have HL := hid hl
  have htr := fun u => rtr_any t u hl.1
  have hx := fun u => rnum_any x u hl.2.1
  have hp := fun u => rnum_any p u hl.2.2
  have HC := hid (show mayC t x p k = (decide (0 ≤ k) && decide (k ≤ 3) && ((t == zb 16) == decide (valH x = 0)) && (!(t == zb 16) || decide (valH p = 0))) by
    unfold mayC; rw [sp_zero x hl.2.1, sp_zero p hl.2.2])
  unfold named at htr
  generalize hA : (t == zb 16) = A at htr HC
  generalize valH x = a at hx HC
  generalize valH p = b at hp HC
  clear hl hA
  go_enter Tryz.func19, Tryz.ntmps19
  go_upto_region 1 with fail
  refine region_steady (fun u => Frm w u [(w.heap.size, 31, (cc t x p k).toArray)]) (by kernel_rfl) (by kernel_rfl) (HF.out.drew) ?_
  repeat (first
    | (refine steady_off (by rfl) ?_; try simp only [Act.put, List.setIfInBounds_toArray, List.set_cons_zero, List.set_cons_succ])
    | (refine steady_pure (v := ?_) (by rfl) ?_ ?_; rotate_left; (focus (intro u; go_simp; with_reducible rfl)); try simp only [Act.put, List.setIfInBounds_toArray, List.set_cons_zero, List.set_cons_succ]))
  refine steady_load 27 (.tmp 6) rfl (by rfl) (fun u h => h.loadT 0 rfl HL.out) ?_
  try simp only [Act.put, List.setIfInBounds_toArray, List.set_cons_zero, List.set_cons_succ]
  refine steady_call (fun u h => frm_call h (htr u)) (by rfl) (fun u => by go_simp) ?_
  try simp only [Act.put, List.setIfInBounds_toArray, List.set_cons_zero, List.set_cons_succ]
  repeat (first
    | (refine steady_off (by rfl) ?_; try simp only [Act.put, List.setIfInBounds_toArray, List.set_cons_zero, List.set_cons_succ])
    | (refine steady_pure (v := ?_) (by rfl) ?_ ?_; rotate_left; (focus (intro u; go_simp; with_reducible rfl)); try simp only [Act.put, List.setIfInBounds_toArray, List.set_cons_zero, List.set_cons_succ]))
  refine steady_load 29 (.tmp 9) rfl (by rfl) (fun u h => h.loadX 0 rfl HL.out) ?_
  try simp only [Act.put, List.setIfInBounds_toArray, List.set_cons_zero, List.set_cons_succ]
  refine steady_call (fun u h => frm_call h (hx u)) (by rfl) (fun u => by go_simp) ?_
  try simp only [Act.put, List.setIfInBounds_toArray, List.set_cons_zero, List.set_cons_succ]
  repeat (first
    | (refine steady_off (by rfl) ?_; try simp only [Act.put, List.setIfInBounds_toArray, List.set_cons_zero, List.set_cons_succ])
    | (refine steady_pure (v := ?_) (by rfl) ?_ ?_; rotate_left; (focus (intro u; go_simp; with_reducible rfl)); try simp only [Act.put, List.setIfInBounds_toArray, List.set_cons_zero, List.set_cons_succ]))
  refine steady_load 29 (.tmp 13) rfl (by rfl) (fun u h => h.loadP 0 rfl HL.out) ?_
  try simp only [Act.put, List.setIfInBounds_toArray, List.set_cons_zero, List.set_cons_succ]
  refine steady_call (fun u h => frm_call h (hp u)) (by rfl) (fun u => by go_simp) ?_
  try simp only [Act.put, List.setIfInBounds_toArray, List.set_cons_zero, List.set_cons_succ]
  repeat (first
    | (refine steady_off (by rfl) ?_; try simp only [Act.put, List.setIfInBounds_toArray, List.set_cons_zero, List.set_cons_succ])
    | (refine steady_pure (v := ?_) (by rfl) ?_ ?_; rotate_left; (focus (intro u; go_simp; with_reducible rfl)); try simp only [Act.put, List.setIfInBounds_toArray, List.set_cons_zero, List.set_cons_succ]))
  refine steady_nil (fun w1 h1 => ?_)
  have HF1 := hid h1
  have c32 := h1.cellK 0 rfl HL.out
  clear h1 htr hx hp
  rcases (by omega : k < 0 ∨ (0 ≤ k ∧ k ≤ 3) ∨ 3 < k) with h0 | ⟨h0, h3⟩ | h3
  · have e1 : decide (0 ≤ k) = false := by simp; omega
    rw [e1, Bool.false_and, Bool.false_and, Bool.false_and] at HC
    go_wp2_with fail
    go_ret
    exact ⟨by rw [HC.out]; rfl, HF1.out.bel⟩
  · have e1 : decide (0 ≤ k) = true := by simp; omega
    have e2 : decide (k ≤ 3) = true := by simp; omega
    rw [e1, e2] at HC
    by_cases qa : a = 0 <;> by_cases qb : b = 0 <;> cases A
    all_goals
      go_wp2_with fail
      go_ret
      exact ⟨by rw [HC.out]; simp [qa, qb], HF1.out.bel⟩
  · have e2 : decide (k ≤ 3) = false := by simp; omega
    have h0 : 0 ≤ k := by omega
    rw [e2, Bool.and_false, Bool.false_and, Bool.false_and] at HC
    go_wp2_with fail
    go_ret
    exact ⟨by rw [HC.out]; rfl, HF1.out.bel⟩
set_option maxRecDepth 100000 in
set_option maxHeartbeats 4000000 in
theorem rnames_any (t x p : List UInt8) (k : Int) (w : World) (hl : Okc t x p) :
    Calls Tryz.prog 77 #[Cv t x p k] w fun e w' => e = .returned (.tuple #[Sv (if named t = true then hexEnc t else []), Sv (if named t = true then hexEnc x else [])]) ∧ Below w.heap.size w w' := by
  have HF := hid ((Frm.start w).new 31 (cc t x p k).toArray rfl)
  have HL := hid hl
  have htr := fun u => rtr_any t u hl.1
  have htb := fun u => rtracebytes_any t u hl.1
  have hxb := fun u => rspanbytes_any x u hl.2.1
  have ht := fun u => rtext_any t u (by rw [hl.1]; decide)
  have hx := fun u => rtext_any x u (by rw [hl.2.1]; decide)
  cases hn : named t with
  | false =>
    rw [hn] at htr
    clear hn hl
    go_enter Tryz.func77, Tryz.ntmps77
    go_wp2_with (first
      | (refine at_load 27 (by rfl) ?_; refine wpList_loadE rfl rfl (HF.out.loadT 0 rfl HL.out) rfl ?_)
      | (go_at_call 46; refine (htr _).mono ?_; rintro e w1 ⟨rfl, hb1⟩; have HF1 := hid (HF.out.call hb1); clear hb1))
    go_ret2
    exact ⟨rfl, HF1.out.bel⟩
  | true =>
    rw [hn] at htr
    clear hn hl
    go_enter Tryz.func77, Tryz.ntmps77
    go_upto_region 3 with (first
      | (refine at_load 27 (by rfl) ?_; refine wpList_loadE rfl rfl (HF.out.loadT 0 rfl HL.out) rfl ?_)
      | (go_at_call 46; refine (htr _).mono ?_; rintro e w1 ⟨rfl, hb1⟩; have HF1 := hid (HF.out.call hb1); clear hb1))
    refine region_steady (fun u => Frm w u [(w.heap.size, 31, (cc t x p k).toArray)]) (by kernel_rfl) (by kernel_rfl) (HF1.out.drew) ?_
    repeat (first
      | (refine steady_off (by rfl) ?_; try simp only [Act.put, List.setIfInBounds_toArray, List.set_cons_zero, List.set_cons_succ])
      | (refine steady_pure (v := ?_) (by rfl) ?_ ?_; rotate_left; (focus (intro u; go_simp; with_reducible rfl)); try simp only [Act.put, List.setIfInBounds_toArray, List.set_cons_zero, List.set_cons_succ]))
    refine steady_load 27 (.tmp 8) rfl (by rfl) (fun u h => h.loadT 0 rfl HL.out) ?_
    try simp only [Act.put, List.setIfInBounds_toArray, List.set_cons_zero, List.set_cons_succ]
    refine steady_call (fun u h => frm_call h (htb u)) (by rfl) (fun u => by go_simp) ?_
    try simp only [Act.put, List.setIfInBounds_toArray, List.set_cons_zero, List.set_cons_succ]
    refine steady_call (fun u h => frm_call h (ht u)) (by rfl) (fun u => by go_simp) ?_
    try simp only [Act.put, List.setIfInBounds_toArray, List.set_cons_zero, List.set_cons_succ]
    repeat (first
      | (refine steady_off (by rfl) ?_; try simp only [Act.put, List.setIfInBounds_toArray, List.set_cons_zero, List.set_cons_succ])
      | (refine steady_pure (v := ?_) (by rfl) ?_ ?_; rotate_left; (focus (intro u; go_simp; with_reducible rfl)); try simp only [Act.put, List.setIfInBounds_toArray, List.set_cons_zero, List.set_cons_succ]))
    refine steady_load 29 (.tmp 12) rfl (by rfl) (fun u h => h.loadX 0 rfl HL.out) ?_
    try simp only [Act.put, List.setIfInBounds_toArray, List.set_cons_zero, List.set_cons_succ]
    refine steady_call (fun u h => frm_call h (hxb u)) (by rfl) (fun u => by go_simp) ?_
    try simp only [Act.put, List.setIfInBounds_toArray, List.set_cons_zero, List.set_cons_succ]
    refine steady_call (fun u h => frm_call h (hx u)) (by rfl) (fun u => by go_simp) ?_
    try simp only [Act.put, List.setIfInBounds_toArray, List.set_cons_zero, List.set_cons_succ]
    repeat (first
      | (refine steady_off (by rfl) ?_; try simp only [Act.put, List.setIfInBounds_toArray, List.set_cons_zero, List.set_cons_succ])
      | (refine steady_pure (v := ?_) (by rfl) ?_ ?_; rotate_left; (focus (intro u; go_simp; with_reducible rfl)); try simp only [Act.put, List.setIfInBounds_toArray, List.set_cons_zero, List.set_cons_succ]))
    refine steady_nil (fun w2 h2 => ?_)
    have HF2 := hid h2
    clear h2
    go_wp2_with fail
    go_ret2
    exact ⟨rfl, HF2.out.bel⟩
set_option maxRecDepth 100000 in
set_option maxHeartbeats 4000000 in
theorem rwithin_any (t x p : List UInt8) (k : Int) (w : World) (hl : Okc t x p) :
    Calls Tryz.prog 79 #[Cv t x p k] w fun e w' => e = .returned (Sv (within p)) ∧ Below w.heap.size w w' := by
  have HF := hid ((Frm.start w).new 31 (cc t x p k).toArray rfl)
  have HL := hid hl
  have hp := fun u => rnum_any p u hl.2.2
  have hpb := fun u => rspanbytes_any p u hl.2.2
  have ht := fun u => rtext_any p u (by rw [hl.2.2]; decide)
  have HW := hid (show within p = if valH p = 0 then [] else hexEnc p by
    unfold within
    have := sp_zero p hl.2.2
    by_cases q : valH p = 0
    · rw [if_pos q, if_pos (by rw [q] at this; simpa using this)]
    · rw [if_neg q, if_neg (by simp only [q, decide_false, beq_eq_false_iff_ne] at this; exact this)])
  generalize valH p = b at hp HW
  clear hl
  go_enter Tryz.func79, Tryz.ntmps79
  by_cases q : b = 0
  · go_wp2_with (first
      | (refine at_load 29 (by rfl) ?_; refine wpList_loadE rfl rfl (HF.out.loadP 0 rfl HL.out) rfl ?_)
      | (go_at_call 47; refine (hp _).mono ?_; rintro e w1 ⟨rfl, hb1⟩; have HF1 := hid (HF.out.call hb1); clear hb1))
    go_ret
    exact ⟨by rw [HW.out, if_pos q]; rfl, HF1.out.bel⟩
  · go_wp2_with (first
      | (refine at_load 29 (by rfl) ?_; refine wpList_loadE rfl rfl (HF.out.loadP 0 rfl HL.out) rfl ?_)
      | (go_at_call 47; refine (hp _).mono ?_; rintro e w1 ⟨rfl, hb1⟩; have HF1 := hid (HF.out.call hb1); clear hb1)
      | (refine at_load 29 (by rfl) ?_; refine wpList_loadE rfl rfl (HF1.out.loadP 0 rfl HL.out) rfl ?_)
      | (go_at_call 76; refine (hpb _).mono ?_; rintro e w2 ⟨rfl, hb2⟩; have HF2 := hid (HF1.out.call hb2); clear hb2)
      | (go_at_call 74; refine (ht _).mono ?_; rintro e w3 ⟨rfl, hb3⟩; have HF3 := hid (HF2.out.call hb3); clear hb3))
    go_ret
    exact ⟨by rw [HW.out, if_neg q]; rfl, HF3.out.bel⟩
def spanR (s : List UInt8) : List UInt8 × Int := if s = [] then (zb 8, 0) else (spanT s, spanC s)
theorem built_z8 : Tryz.prog.built 29 [] = some (b8s (zb 8)).toArray := by kernel_rfl
theorem results_av2' {fn : Func} {p q : Tmp} (h : fn.results = #[.cell p 29, .tmp q]) (tmps : Array Value) (w : World) (g : Nat) (T : TypeId) (l : List UInt8)
    (hp : tmps.getD p undef = .pointer (some ⟨g, 0, none⟩)) (hb : Blk w g T (b8s l).toArray) (hl : l.length = 8) :
    (results fn tmps).run Tryz.prog w = .ok (.tuple #[Av l, tmps.getD q undef]) w := results_av2 h tmps w g T l hp hb Tryz.underlying29 info_span hl
set_option maxRecDepth 100000 in
set_option maxHeartbeats 4000000 in
theorem rspan45_any (s : List UInt8) (w : World) (hs : s.length ≤ 140737488355328) :
    Calls Tryz.prog 67 #[Sv s] w fun e w' => e = .returned (.tuple #[Av (spanR s).1, .int .i64 (spanR s).2]) ∧ Below w.heap.size w w' := by
  have HF := hid ((Frm.start w).new 29 (b8s (zb 8)).toArray rfl)
  have HLX := hid (spanT_length s)
  by_cases h : s = []
  · subst h
    go_enter Tryz.func67, Tryz.ntmps67
    go_wp2_with (first
      | (refine at_store 29 (by rfl) ?_; refine wpList_put8 HF.out 0 (l := zb 8) rfl rfl rfl (zb_length _) (zb_length _) rfl rfl ?_; intro w9 h9; have HF9 := hid h9; clear h9))
    exact bodyPost_ret (results_av2' rfl _ _ _ _ (zb 8) rfl (HF9.out.get 0 rfl) (zb_length _)) rfl ⟨rfl, HF9.out.bel⟩
  · have hr := fun u => rreadspan_any s u hs
    have HO := hid (show spanR s = (spanT s, spanC s) from if_neg h)
    have e := iE h
    clear h
    generalize spanC s = cs at hr HO
    go_enter Tryz.func67, Tryz.ntmps67
    go_wp2_with (first
      | (go_at_call 63; refine (hr _).mono ?_; rintro e w1 ⟨rfl, hb1⟩; have HF1 := hid (HF.out.call hb1); clear hb1)
      | (refine at_store 29 (by rfl) ?_; refine wpList_put8 HF1.out 0 rfl rfl rfl (zb_length _) HLX.out rfl rfl ?_; intro w9 h9; have HF9 := hid h9; clear h9))
    exact bodyPost_ret (results_av2' rfl _ _ _ _ (spanT s) rfl (HF9.out.get 0 rfl) HLX.out) rfl ⟨by rw [HO.out]; rfl, HF9.out.bel⟩
end Go.Proofs.YtgfdmdikiickpaaGreatDoor

/-! BrefC -/
namespace Go.Proofs.YtgfdmdikiickpaaGreatDoor
open Go.RowKit

theorem len_ne {l : List UInt8} {n : Nat} (h : l.length = n + 1) : l ≠ [] := by rintro rfl; cases h
set_option maxRecDepth 100000 in
set_option maxHeartbeats 4000000 in
theorem rtextone_any (t x p : List UInt8) (k : Int) (w : World) (hl : Okc t x p) :
    Calls Tryz.prog 44 #[Cv t x p k] w fun e w' => e = .returned (Sv (oneT t x p k)) ∧ Below w.heap.size w w' := by
  have HF := hid ((Frm.start w).new 31 (cc t x p k).toArray rfl)
  have HL := hid hl
  have hmay := fun u => rmayc_any t x p k u hl
  have hnam := fun u => rnames_any t x p k u hl
  have hwit := fun u => rwithin_any t x p k u hl
  have hlet := fun u => rletter_any k u
  cases hm : mayC t x p k with
  | false =>
    have HO := hid (show oneT t x p k = [] by unfold oneT; rw [if_neg (by rw [hm]; simp)])
    rw [hm] at hmay
    clear hm hl
    go_enter Tryz.func44, Tryz.ntmps44
    go_wp2_with (first
      | (refine at_load 31 (by rfl) ?_; refine wpList_loadE rfl rfl (HF.out.loadCv 0 rfl HL.out) rfl ?_)
      | (go_at_call 19; refine (hmay _).mono ?_; rintro e w1 ⟨rfl, hb1⟩; have HF1 := hid (HF.out.call hb1); clear hb1))
    go_ret
    exact ⟨by rw [HO.out]; rfl, HF1.out.bel⟩
  | true =>
    obtain ⟨k0, k3, _, _⟩ := mayC_of hm
    cases hn : named t with
    | false =>
      have HO := hid (show oneT t x p k = letterS k by
        unfold oneT
        rw [if_pos hm, if_pos (Classical.byContradiction fun q => by rw [named_t.2 q] at hn; cases hn)])
      rw [hm] at hmay
      rw [hn] at hnam
      simp only [Bool.false_eq_true, if_false] at hnam
      generalize letterS k = K at hlet HO
      clear hm hn hl hwit k0 k3
      go_enter Tryz.func44, Tryz.ntmps44
      go_wp2_with (first
        | (refine at_load 31 (by rfl) ?_; refine wpList_loadE rfl rfl (HF.out.loadCv 0 rfl HL.out) rfl ?_)
        | (go_at_call 19; refine (hmay _).mono ?_; rintro e w1 ⟨rfl, hb1⟩; have HF1 := hid (HF.out.call hb1); clear hb1)
        | (refine at_load 31 (by rfl) ?_; refine wpList_loadE rfl rfl (HF1.out.loadCv 0 rfl HL.out) rfl ?_)
        | (go_at_call 77; refine (hnam _).mono ?_; rintro e w2 ⟨rfl, hb2⟩; have HF2 := hid (HF1.out.call hb2); clear hb2)
        | (refine at_load 3 (by rfl) ?_; refine wpList_loadE rfl rfl (HF2.out.loadK 0 rfl HL.out) rfl ?_)
        | (go_at_call 78; refine (hlet _).mono ?_; rintro e w3 ⟨rfl, hw3⟩; have HF3 := hid (HF2.out.call (w' := w3) (by rw [hw3]; exact Below.refl _ _)); clear hw3))
      go_ret
      exact ⟨by rw [HO.out]; rfl, HF3.out.bel⟩
    | true =>
      have l1 := letterS_len k
      have l2 : (hexEnc t).length = 31 + 1 := by rw [hexEnc_length, hl.1]
      have l3 : (hexEnc x).length = 15 + 1 := by rw [hexEnc_length, hl.2.1]
      have e2 := iE (len_ne l2)
      have l4 : (within p).length ≤ 16 := by
        unfold within
        split
        · simp
        · rw [hexEnc_length, hl.2.2]; decide
      have HO := hid (show oneT t x p k = hexEnc t ++ [45] ++ hexEnc x ++ (if k = 0 then [] else [45] ++ letterS k ++ (if within p = [] then [] else [45] ++ within p)) by
        unfold oneT
        rw [if_pos hm, if_neg (named_t.1 hn)]
        have key : (if p = zb 8 then [] else [45] ++ hexEnc p) = (if within p = [] then [] else [45] ++ within p) := by
          unfold within
          by_cases q : p = zb 8
          · rw [if_pos q, if_pos q, if_pos rfl]
          · rw [if_neg q, if_neg q, if_neg (by rw [hexEnc_nil_iff]; rintro rfl; cases hl.2.2)]
        rw [key])
      rw [hm] at hmay
      rw [hn] at hnam
      simp only [if_true] at hnam
      generalize letterS k = K at hlet HO l1
      generalize hexEnc t = E at hnam HO l2 e2
      generalize hexEnc x = D at hnam HO l3
      generalize within p = G at hwit HO l4
      clear hm hn hl
      by_cases hg : G = []
      · subst hg
        go_enter Tryz.func44, Tryz.ntmps44
        go_wp2_with (first
          | (refine at_load 31 (by rfl) ?_; refine wpList_loadE rfl rfl (HF.out.loadCv 0 rfl HL.out) rfl ?_)
          | (go_at_call 19; refine (hmay _).mono ?_; rintro e w1 ⟨rfl, hb1⟩; have HF1 := hid (HF.out.call hb1); clear hb1)
          | (refine at_load 31 (by rfl) ?_; refine wpList_loadE rfl rfl (HF1.out.loadCv 0 rfl HL.out) rfl ?_)
          | (go_at_call 77; refine (hnam _).mono ?_; rintro e w2 ⟨rfl, hb2⟩; have HF2 := hid (HF1.out.call hb2); clear hb2)
          | (refine at_load 3 (by rfl) ?_; refine wpList_loadE rfl rfl (HF2.out.loadK 0 rfl HL.out) rfl ?_)
          | (go_at_call 78; refine (hlet _).mono ?_; rintro e w3 ⟨rfl, hw3⟩; have HF3 := hid (HF2.out.call (w' := w3) (by rw [hw3]; exact Below.refl _ _)); clear hw3)
          | (refine at_load 31 (by rfl) ?_; refine wpList_loadE rfl rfl (HF3.out.loadCv 0 rfl HL.out) rfl ?_)
          | (go_at_call 79; refine (hwit _).mono ?_; rintro e w4 ⟨rfl, hb4⟩; have HF4 := hid (HF3.out.call hb4); clear hb4))
        · have q : k ≠ 0 := by omega
          go_ret
          exact ⟨by rw [HO.out, if_neg q]; simp, HF4.out.bel⟩
        · have q : k = 0 := by omega
          go_ret
          exact ⟨by rw [HO.out, if_pos q]; simp, HF2.out.bel⟩
      · have eg := iE hg
        have HG := hid hg
        clear hg
        go_enter Tryz.func44, Tryz.ntmps44
        go_wp2_with (first
          | (refine at_load 31 (by rfl) ?_; refine wpList_loadE rfl rfl (HF.out.loadCv 0 rfl HL.out) rfl ?_)
          | (go_at_call 19; refine (hmay _).mono ?_; rintro e w1 ⟨rfl, hb1⟩; have HF1 := hid (HF.out.call hb1); clear hb1)
          | (refine at_load 31 (by rfl) ?_; refine wpList_loadE rfl rfl (HF1.out.loadCv 0 rfl HL.out) rfl ?_)
          | (go_at_call 77; refine (hnam _).mono ?_; rintro e w2 ⟨rfl, hb2⟩; have HF2 := hid (HF1.out.call hb2); clear hb2)
          | (refine at_load 3 (by rfl) ?_; refine wpList_loadE rfl rfl (HF2.out.loadK 0 rfl HL.out) rfl ?_)
          | (go_at_call 78; refine (hlet _).mono ?_; rintro e w3 ⟨rfl, hw3⟩; have HF3 := hid (HF2.out.call (w' := w3) (by rw [hw3]; exact Below.refl _ _)); clear hw3)
          | (refine at_load 31 (by rfl) ?_; refine wpList_loadE rfl rfl (HF3.out.loadCv 0 rfl HL.out) rfl ?_)
          | (go_at_call 79; refine (hwit _).mono ?_; rintro e w4 ⟨rfl, hb4⟩; have HF4 := hid (HF3.out.call hb4); clear hb4)
          | (refine at_load 31 (by rfl) ?_; refine wpList_loadE rfl rfl (HF4.out.loadCv 0 rfl HL.out) rfl ?_)
          | (go_at_call 79; refine (hwit _).mono ?_; rintro e w5 ⟨rfl, hb5⟩; have HF5 := hid (HF4.out.call hb5); clear hb5))
        · have q : k ≠ 0 := by omega
          go_ret
          exact ⟨by rw [HO.out, if_neg q, if_neg HG.out]; simp, HF5.out.bel⟩
        · have q : k = 0 := by omega
          go_ret
          exact ⟨by rw [HO.out, if_pos q]; simp, HF2.out.bel⟩
theorem info_nul : (Tryz.prog.info? 77).map (·.size) = some 5 := by kernel_rfl
theorem Frm.loadNv {w0 w : World} {L : List Bk} (h : Frm w0 w L) (i : Nat) {g : Nat} {T : TypeId} {m : Mu} (hi : L[i]? = some (g, T, mc m)) : (Instr.loadAt 77 (.pointer (some ⟨g, 0, none⟩))).run Tryz.prog w = .ok (Mv m) w :=
  run_loadAt_mid w g 0 77 (mc m).toList _ (fun j u hu => by rw [Nat.zero_add, (h.get i hi).cell j, ← hu]; simp) Tryz.underlying77 rfl (by rw [info_nul]; rfl)
theorem wpList_putN {ops : Array Oper} {rest : List Oper} {o : Oper} {a : Act} {w w0 : World} {Q : Exit → Act → World → Prop} {L : List Bk} (h : Frm w0 w L) (i : Nat) (m m' : Mu) {g : Nat} {T : TypeId} {y z : Operand} (hgd : o.guard = none) (ho : o.op = .store 77 y z)
    (hi : L[i]? = some (g, T, mc m)) (hx : a.eval y = .pointer (some ⟨g, 0, none⟩)) (hy : a.eval z = Mv m')
    (hn : ∀ w', Frm w0 w' (L.set i (g, T, mc m')) → wpList Tryz.prog ops Q rest (a.put o.dst undef) w') : wpList Tryz.prog ops Q (o :: rest) a w :=
  wpList_store_row hgd _ y z ho g _ hx hy T _ (h.get i hi) (by rw [info_nul]; rfl) rfl (by simp [Sv, Value.oneCell']) (hn _ (h.setRow i hi _))
theorem results_nv1 {fn : Func} {p : Tmp} (h : fn.results = #[.cell p 77]) (tmps : Array Value) (w : World) (g : Nat) (T : TypeId) (m : Mu)
    (hp : tmps.getD p undef = .pointer (some ⟨g, 0, none⟩)) (hb : Blk w g T (mc m)) : (results fn tmps).run Tryz.prog w = .ok (Mv m) w :=
  results_cell_row h tmps w g T (mc m) (0, 0) _ hp hb Tryz.underlying77 rfl (by rw [info_nul]; rfl)
theorem multiT_yes {t x p : List UInt8} {k : Int} (hm : mayC t x p k = true) : multiT t x p k = (if named t = true then hexEnc t else [], if named t = true then hexEnc x else [], within p, if k = 3 then [] else letterS k, if k = 3 then [49] else []) := by
  unfold multiT
  rw [if_pos hm]
  by_cases q : t = zb 16
  · have : named t = false := by simp [named, q]
    rw [if_pos q, if_pos q, this]
    rfl
  · rw [if_neg q, if_neg q, named_t.2 q]
    rfl
set_option maxRecDepth 100000 in
set_option maxHeartbeats 4000000 in
theorem rtextmulti_any (t x p : List UInt8) (k : Int) (w : World) (hl : Okc t x p) :
    Calls Tryz.prog 45 #[Cv t x p k] w fun e w' => e = .returned (Mv (multiT t x p k)) ∧ Below w.heap.size w w' := by
  have HF := hid (((Frm.start w).new 31 (cc t x p k).toArray rfl).new 77 (mc muNone) (n := w.heap.size + 1) (by simp))
  have HL := hid hl
  have hmay := fun u => rmayc_any t x p k u hl
  have hnam := fun u => rnames_any t x p k u hl
  have hwit := fun u => rwithin_any t x p k u hl
  have hlet := fun u => rletter_any k u
  cases hm : mayC t x p k with
  | false =>
    have HO := hid (show multiT t x p k = muNone by unfold multiT; rw [if_neg (by rw [hm]; simp)])
    rw [hm] at hmay
    clear hm hl
    go_enter Tryz.func45, Tryz.ntmps45
    go_wp2_with (first
      | (refine at_load 31 (by rfl) ?_; refine wpList_loadE rfl rfl (HF.out.loadCv 0 rfl HL.out) rfl ?_)
      | (go_at_call 19; refine (hmay _).mono ?_; rintro e w1 ⟨rfl, hb1⟩; have HF1 := hid (HF.out.call hb1); clear hb1)
      | (refine at_store 77 (by rfl) ?_; refine wpList_putN HF1.out 1 muNone muNone rfl rfl rfl rfl rfl ?_; intro w9 h9; have HF9 := hid h9; clear h9))
    exact bodyPost_ret (results_nv1 rfl _ _ _ _ muNone rfl (HF9.out.get 1 rfl)) rfl ⟨by rw [HO.out], HF9.out.bel⟩
  | true =>
    have HO := hid (multiT_yes hm)
    rw [hm] at hmay
    generalize letterS k = K at hlet HO
    generalize (if named t = true then hexEnc t else []) = E at hnam HO
    generalize (if named t = true then hexEnc x else []) = D at hnam HO
    generalize within p = G at hwit HO
    clear hm hl
    go_enter Tryz.func45, Tryz.ntmps45
    go_wp2_with (first
      | (refine at_load 31 (by rfl) ?_; refine wpList_loadE rfl rfl (HF.out.loadCv 0 rfl HL.out) rfl ?_)
      | (go_at_call 19; refine (hmay _).mono ?_; rintro e w1 ⟨rfl, hb1⟩; have HF1 := hid (HF.out.call hb1); clear hb1)
      | (refine at_load 31 (by rfl) ?_; refine wpList_loadE rfl rfl (HF1.out.loadCv 0 rfl HL.out) rfl ?_)
      | (go_at_call 77; refine (hnam _).mono ?_; rintro e w2 ⟨rfl, hb2⟩; have HF2 := hid (HF1.out.call hb2); clear hb2)
      | (refine at_load 31 (by rfl) ?_; refine wpList_loadE rfl rfl (HF2.out.loadCv 0 rfl HL.out) rfl ?_)
      | (go_at_call 79; refine (hwit _).mono ?_; rintro e w4 ⟨rfl, hb4⟩; have HF4 := hid ((HF2.out.call hb4).new 77 (mc muNone) rfl); clear hb4)
      | (refine at_store 77 (by rfl) ?_; refine wpList_putN HF4.out 2 muNone (E, D, G, [], []) rfl rfl rfl rfl rfl ?_; intro w5 h5; have HF5 := hid h5; clear h5)
      | (refine at_load 3 (by rfl) ?_; refine wpList_loadE rfl rfl (HF5.out.loadK 0 rfl HL.out) rfl ?_)
      | (refine at_store 9 (by rfl) ?_; refine wpList_putMs HF5.out 2 (E, D, G, [], []) (E, D, G, [], [49]) 4 rfl rfl rfl rfl rfl (by decide) rfl ?_; intro w7 h7; have HF7 := hid h7; clear h7)
      | (refine at_load 77 (by rfl) ?_; refine wpList_loadE rfl rfl (HF7.out.loadNv (m := (E, D, G, [], [49])) 2 rfl) rfl ?_)
      | (refine at_store 77 (by rfl) ?_; refine wpList_putN HF7.out 1 muNone (E, D, G, [], [49]) rfl rfl rfl rfl rfl ?_; intro w9 h9; have HF9 := hid h9; clear h9)
      | (go_at_call 78; refine (hlet _).mono ?_; rintro e w8 ⟨rfl, hw8⟩; have HF8 := hid (HF5.out.call (w' := w8) (by rw [hw8]; exact Below.refl _ _)); clear hw8)
      | (refine at_store 9 (by rfl) ?_; refine wpList_putMs HF8.out 2 (E, D, G, [], []) (E, D, G, K, []) 3 rfl rfl rfl rfl rfl (by decide) rfl ?_; intro wa ha; have HFa := hid ha; clear ha)
      | (refine at_load 77 (by rfl) ?_; refine wpList_loadE rfl rfl (HFa.out.loadNv (m := (E, D, G, K, [])) 2 rfl) rfl ?_)
      | (refine at_store 77 (by rfl) ?_; refine wpList_putN HFa.out 1 muNone (E, D, G, K, []) rfl rfl rfl rfl rfl ?_; intro w9 h9; have HF9 := hid h9; clear h9))
    · have q : k = 3 := beqi_yes (by assumption)
      exact bodyPost_ret (results_nv1 rfl _ _ _ _ (E, D, G, [], [49]) rfl (HF9.out.get 1 rfl)) rfl ⟨by rw [HO.out, if_pos q, if_pos q], HF9.out.bel⟩
    · have q : k ≠ 3 := beqi_no (by assumption)
      exact bodyPost_ret (results_nv1 rfl _ _ _ _ (E, D, G, K, []) rfl (HF9.out.get 1 rfl)) rfl ⟨by rw [HO.out, if_neg q, if_neg q], HF9.out.bel⟩
end Go.Proofs.YtgfdmdikiickpaaGreatDoor
