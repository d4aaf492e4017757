/-
  Walks of the reference of package b3: May, names, within, span, TextOne, TextMulti.
-/
import Derived.Test.YtgfdmdikiickpaaDoorBref
namespace Go.Proofs.YtgfdmdikiickpaaDoor
open Go.RowKit

set_option maxRecDepth 100000 in
set_option maxHeartbeats 4000000 in
theorem rmayc_any (t x p : List UInt8) (k : Int) (w : World) (hl : Okc t x p) :
    Calls Tryd.prog 18 #[Cv t x p k] w fun e w' => e = .returned (.bool (mayC t x p k)) ∧ Below w.heap.size w w' := by
  have HF := hid ((Frm.start w).new 29 (cc t x p k).toArray rfl)
  have HL := hid hl
  have htr := fun u => rtr_any t u hl.1
  have hx := fun u => rnum_any x u hl.2.1
  have hp := fun u => rnum_any p u hl.2.2
  have HC := hid (show mayC t x p k = (decide (0 ≤ k) && decide (k ≤ 3) && ((t == zb 16) == decide (valH x = 0)) && (!(t == zb 16) || decide (valH p = 0))) by
    unfold mayC; rw [sp_zero x hl.2.1, sp_zero p hl.2.2])
  unfold named at htr
  generalize hA : (t == zb 16) = A at htr HC
  generalize valH x = a at hx HC
  generalize valH p = b at hp HC
  clear hl hA
  go_enter Tryd.func18, Tryd.ntmps18
  go_upto_region 1 with fail
  refine region_steady (fun u => Frm w u [(w.heap.size, 29, (cc t x p k).toArray)]) (by kernel_rfl) (by kernel_rfl) (HF.out.drew) ?_
  repeat (first
    | (refine steady_off (by rfl) ?_; try simp only [Act.put, List.setIfInBounds_toArray, List.set_cons_zero, List.set_cons_succ])
    | (refine steady_pure (v := ?_) (by rfl) ?_ ?_; rotate_left; (focus (intro u; go_simp; with_reducible rfl)); try simp only [Act.put, List.setIfInBounds_toArray, List.set_cons_zero, List.set_cons_succ]))
  refine steady_load 25 (.tmp 6) rfl (by rfl) (fun u h => h.loadT 0 rfl HL.out) ?_
  try simp only [Act.put, List.setIfInBounds_toArray, List.set_cons_zero, List.set_cons_succ]
  refine steady_call (fun u h => frm_call h (htr u)) (by rfl) (fun u => by go_simp) ?_
  try simp only [Act.put, List.setIfInBounds_toArray, List.set_cons_zero, List.set_cons_succ]
  repeat (first
    | (refine steady_off (by rfl) ?_; try simp only [Act.put, List.setIfInBounds_toArray, List.set_cons_zero, List.set_cons_succ])
    | (refine steady_pure (v := ?_) (by rfl) ?_ ?_; rotate_left; (focus (intro u; go_simp; with_reducible rfl)); try simp only [Act.put, List.setIfInBounds_toArray, List.set_cons_zero, List.set_cons_succ]))
  refine steady_load 27 (.tmp 9) rfl (by rfl) (fun u h => h.loadX 0 rfl HL.out) ?_
  try simp only [Act.put, List.setIfInBounds_toArray, List.set_cons_zero, List.set_cons_succ]
  refine steady_call (fun u h => frm_call h (hx u)) (by rfl) (fun u => by go_simp) ?_
  try simp only [Act.put, List.setIfInBounds_toArray, List.set_cons_zero, List.set_cons_succ]
  repeat (first
    | (refine steady_off (by rfl) ?_; try simp only [Act.put, List.setIfInBounds_toArray, List.set_cons_zero, List.set_cons_succ])
    | (refine steady_pure (v := ?_) (by rfl) ?_ ?_; rotate_left; (focus (intro u; go_simp; with_reducible rfl)); try simp only [Act.put, List.setIfInBounds_toArray, List.set_cons_zero, List.set_cons_succ]))
  refine steady_load 27 (.tmp 13) rfl (by rfl) (fun u h => h.loadP 0 rfl HL.out) ?_
  try simp only [Act.put, List.setIfInBounds_toArray, List.set_cons_zero, List.set_cons_succ]
  refine steady_call (fun u h => frm_call h (hp u)) (by rfl) (fun u => by go_simp) ?_
  try simp only [Act.put, List.setIfInBounds_toArray, List.set_cons_zero, List.set_cons_succ]
  repeat (first
    | (refine steady_off (by rfl) ?_; try simp only [Act.put, List.setIfInBounds_toArray, List.set_cons_zero, List.set_cons_succ])
    | (refine steady_pure (v := ?_) (by rfl) ?_ ?_; rotate_left; (focus (intro u; go_simp; with_reducible rfl)); try simp only [Act.put, List.setIfInBounds_toArray, List.set_cons_zero, List.set_cons_succ]))
  refine steady_nil (fun w1 h1 => ?_)
  have HF1 := hid h1
  have c32 := h1.cellK 0 rfl HL.out
  clear h1 htr hx hp
  rcases (by omega : k < 0 ∨ (0 ≤ k ∧ k ≤ 3) ∨ 3 < k) with h0 | ⟨h0, h3⟩ | h3
  · have e1 : decide (0 ≤ k) = false := by simp; omega
    rw [e1, Bool.false_and, Bool.false_and, Bool.false_and] at HC
    go_wp2_with fail
    go_ret
    exact ⟨by rw [HC.out]; rfl, HF1.out.bel⟩
  · have e1 : decide (0 ≤ k) = true := by simp; omega
    have e2 : decide (k ≤ 3) = true := by simp; omega
    rw [e1, e2] at HC
    by_cases qa : a = 0 <;> by_cases qb : b = 0 <;> cases A
    all_goals
      go_wp2_with fail
      go_ret
      exact ⟨by rw [HC.out]; simp [qa, qb], HF1.out.bel⟩
  · have e2 : decide (k ≤ 3) = false := by simp; omega
    have h0 : 0 ≤ k := by omega
    rw [e2, Bool.and_false, Bool.false_and, Bool.false_and] at HC
    go_wp2_with fail
    go_ret
    exact ⟨by rw [HC.out]; rfl, HF1.out.bel⟩
set_option maxRecDepth 100000 in
set_option maxHeartbeats 4000000 in
theorem rnames_any (t x p : List UInt8) (k : Int) (w : World) (hl : Okc t x p) :
    Calls Tryd.prog 50 #[Cv t x p k] w fun e w' => e = .returned (.tuple #[Sv (if named t = true then hexEnc t else []), Sv (if named t = true then hexEnc x else [])]) ∧ Below w.heap.size w w' := by
  have HF := hid ((Frm.start w).new 29 (cc t x p k).toArray rfl)
  have HL := hid hl
  have htr := fun u => rtr_any t u hl.1
  have htb := fun u => rtracebytes_any t u hl.1
  have hxb := fun u => rspanbytes_any x u hl.2.1
  have ht := fun u => rtext_any t u (by rw [hl.1]; decide)
  have hx := fun u => rtext_any x u (by rw [hl.2.1]; decide)
  cases hn : named t with
  | false =>
    rw [hn] at htr
    clear hn hl
    go_enter Tryd.func50, Tryd.ntmps50
    go_wp2_with (first
      | (refine wpList_loadE rfl rfl (HF.out.loadT 0 rfl HL.out) rfl ?_)
      | (go_at_call 53; refine (htr _).mono ?_; rintro e w1 ⟨rfl, hb1⟩; have HF1 := hid (HF.out.call hb1); clear hb1))
    go_ret2
    exact ⟨rfl, HF1.out.bel⟩
  | true =>
    rw [hn] at htr
    clear hn hl
    go_enter Tryd.func50, Tryd.ntmps50
    go_upto_region 3 with (first
      | (refine wpList_loadE rfl rfl (HF.out.loadT 0 rfl HL.out) rfl ?_)
      | (go_at_call 53; refine (htr _).mono ?_; rintro e w1 ⟨rfl, hb1⟩; have HF1 := hid (HF.out.call hb1); clear hb1))
    refine region_steady (fun u => Frm w u [(w.heap.size, 29, (cc t x p k).toArray)]) (by kernel_rfl) (by kernel_rfl) (HF1.out.drew) ?_
    repeat (first
      | (refine steady_off (by rfl) ?_; try simp only [Act.put, List.setIfInBounds_toArray, List.set_cons_zero, List.set_cons_succ])
      | (refine steady_pure (v := ?_) (by rfl) ?_ ?_; rotate_left; (focus (intro u; go_simp; with_reducible rfl)); try simp only [Act.put, List.setIfInBounds_toArray, List.set_cons_zero, List.set_cons_succ]))
    refine steady_load 25 (.tmp 8) rfl (by rfl) (fun u h => h.loadT 0 rfl HL.out) ?_
    try simp only [Act.put, List.setIfInBounds_toArray, List.set_cons_zero, List.set_cons_succ]
    refine steady_call (fun u h => frm_call h (htb u)) (by rfl) (fun u => by go_simp) ?_
    try simp only [Act.put, List.setIfInBounds_toArray, List.set_cons_zero, List.set_cons_succ]
    refine steady_call (fun u h => frm_call h (ht u)) (by rfl) (fun u => by go_simp) ?_
    try simp only [Act.put, List.setIfInBounds_toArray, List.set_cons_zero, List.set_cons_succ]
    repeat (first
      | (refine steady_off (by rfl) ?_; try simp only [Act.put, List.setIfInBounds_toArray, List.set_cons_zero, List.set_cons_succ])
      | (refine steady_pure (v := ?_) (by rfl) ?_ ?_; rotate_left; (focus (intro u; go_simp; with_reducible rfl)); try simp only [Act.put, List.setIfInBounds_toArray, List.set_cons_zero, List.set_cons_succ]))
    refine steady_load 27 (.tmp 12) rfl (by rfl) (fun u h => h.loadX 0 rfl HL.out) ?_
    try simp only [Act.put, List.setIfInBounds_toArray, List.set_cons_zero, List.set_cons_succ]
    refine steady_call (fun u h => frm_call h (hxb u)) (by rfl) (fun u => by go_simp) ?_
    try simp only [Act.put, List.setIfInBounds_toArray, List.set_cons_zero, List.set_cons_succ]
    refine steady_call (fun u h => frm_call h (hx u)) (by rfl) (fun u => by go_simp) ?_
    try simp only [Act.put, List.setIfInBounds_toArray, List.set_cons_zero, List.set_cons_succ]
    repeat (first
      | (refine steady_off (by rfl) ?_; try simp only [Act.put, List.setIfInBounds_toArray, List.set_cons_zero, List.set_cons_succ])
      | (refine steady_pure (v := ?_) (by rfl) ?_ ?_; rotate_left; (focus (intro u; go_simp; with_reducible rfl)); try simp only [Act.put, List.setIfInBounds_toArray, List.set_cons_zero, List.set_cons_succ]))
    refine steady_nil (fun w2 h2 => ?_)
    have HF2 := hid h2
    clear h2
    go_wp2_with fail
    go_ret2
    exact ⟨rfl, HF2.out.bel⟩
set_option maxRecDepth 100000 in
set_option maxHeartbeats 4000000 in
theorem rwithin_any (t x p : List UInt8) (k : Int) (w : World) (hl : Okc t x p) :
    Calls Tryd.prog 52 #[Cv t x p k] w fun e w' => e = .returned (Sv (within p)) ∧ Below w.heap.size w w' := by
  have HF := hid ((Frm.start w).new 29 (cc t x p k).toArray rfl)
  have HL := hid hl
  have hp := fun u => rnum_any p u hl.2.2
  have hpb := fun u => rspanbytes_any p u hl.2.2
  have ht := fun u => rtext_any p u (by rw [hl.2.2]; decide)
  have HW := hid (show within p = if valH p = 0 then [] else hexEnc p by
    unfold within
    have := sp_zero p hl.2.2
    by_cases q : valH p = 0
    · rw [if_pos q, if_pos (by rw [q] at this; simpa using this)]
    · rw [if_neg q, if_neg (by simp only [q, decide_false, beq_eq_false_iff_ne] at this; exact this)])
  generalize valH p = b at hp HW
  clear hl
  go_enter Tryd.func52, Tryd.ntmps52
  by_cases q : b = 0
  · go_wp2_with (first
      | (refine wpList_loadE rfl rfl (HF.out.loadP 0 rfl HL.out) rfl ?_)
      | (go_at_call 54; refine (hp _).mono ?_; rintro e w1 ⟨rfl, hb1⟩; have HF1 := hid (HF.out.call hb1); clear hb1))
    go_ret
    exact ⟨by rw [HW.out, if_pos q]; rfl, HF1.out.bel⟩
  · go_wp2_with (first
      | (refine wpList_loadE rfl rfl (HF.out.loadP 0 rfl HL.out) rfl ?_)
      | (go_at_call 54; refine (hp _).mono ?_; rintro e w1 ⟨rfl, hb1⟩; have HF1 := hid (HF.out.call hb1); clear hb1)
      | (refine wpList_loadE rfl rfl (HF1.out.loadP 0 rfl HL.out) rfl ?_)
      | (go_at_call 77; refine (hpb _).mono ?_; rintro e w2 ⟨rfl, hb2⟩; have HF2 := hid (HF1.out.call hb2); clear hb2)
      | (go_at_call 75; refine (ht _).mono ?_; rintro e w3 ⟨rfl, hb3⟩; have HF3 := hid (HF2.out.call hb3); clear hb3))
    go_ret
    exact ⟨by rw [HW.out, if_neg q]; rfl, HF3.out.bel⟩
def spanR (s : List UInt8) : List UInt8 × Int := if s = [] then (zb 8, 0) else (spanT s, spanC s)
theorem built_z8 : Tryd.prog.built 27 [] = some (b8s (zb 8)).toArray := by kernel_rfl
theorem results_av2' {fn : Func} {p q : Tmp} (h : fn.results = #[.cell p 27, .tmp q]) (tmps : Array Value) (w : World) (g : Nat) (T : TypeId) (l : List UInt8)
    (hp : tmps.getD p undef = .pointer (some ⟨g, 0, none⟩)) (hb : Blk w g T (b8s l).toArray) (hl : l.length = 8) :
    (results fn tmps).run Tryd.prog w = .ok (.tuple #[Av l, tmps.getD q undef]) w := results_av2 h tmps w g T l hp hb Tryd.underlying27 info_span hl
set_option maxRecDepth 100000 in
set_option maxHeartbeats 4000000 in
theorem rspan45_any (s : List UInt8) (w : World) (hs : s.length ≤ 140737488355328) :
    Calls Tryd.prog 45 #[Sv s] w fun e w' => e = .returned (.tuple #[Av (spanR s).1, .int .i64 (spanR s).2]) ∧ Below w.heap.size w w' := by
  have HF := hid ((Frm.start w).new 27 (b8s (zb 8)).toArray rfl)
  have HLX := hid (spanT_length s)
  by_cases h : s = []
  · subst h
    go_enter Tryd.func45, Tryd.ntmps45
    go_wp2_with (first
      | (refine wpList_put8 HF.out 0 (l := zb 8) rfl rfl rfl (zb_length _) (zb_length _) rfl rfl ?_; intro w9 h9; have HF9 := hid h9; clear h9))
    exact bodyPost_ret (results_av2' rfl _ _ _ _ (zb 8) rfl (HF9.out.get 0 rfl) (zb_length _)) rfl ⟨rfl, HF9.out.bel⟩
  · have hr := fun u => rreadspan_any s u hs
    have HO := hid (show spanR s = (spanT s, spanC s) from if_neg h)
    have e := iE h
    clear h
    generalize spanC s = cs at hr HO
    go_enter Tryd.func45, Tryd.ntmps45
    go_wp2_with (first
      | (go_at_call 41; refine (hr _).mono ?_; rintro e w1 ⟨rfl, hb1⟩; have HF1 := hid (HF.out.call hb1); clear hb1)
      | (refine wpList_put8 HF1.out 0 rfl rfl rfl (zb_length _) HLX.out rfl rfl ?_; intro w9 h9; have HF9 := hid h9; clear h9))
    exact bodyPost_ret (results_av2' rfl _ _ _ _ (spanT s) rfl (HF9.out.get 0 rfl) HLX.out) rfl ⟨by rw [HO.out]; rfl, HF9.out.bel⟩
end Go.Proofs.YtgfdmdikiickpaaDoor
