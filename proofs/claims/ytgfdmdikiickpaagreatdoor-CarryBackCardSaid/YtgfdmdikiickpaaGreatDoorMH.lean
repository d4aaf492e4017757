/-
  Texts for the laws of this seat, merged: Bthree, BthreeB, BthreeC, BthreeD, BthreeE, BthreeF.
-/
import Derived.Test.YtgfdmdikiickpaaGreatDoorMA
import Derived.Test.YtgfdmdikiickpaaGreatDoorMC
import Derived.Test.YtgfdmdikiickpaaGreatDoorMF
/-! Bthree -/
namespace Go.Proofs.YtgfdmdikiickpaaGreatDoor
open Go.RowKit

theorem neq_no {a b : Int} (h : (a != b) = false) : a = b := by simpa using h
theorem neq_yes {a b : Int} (h : (a != b) = true) : a ≠ b := by simpa using h
theorem beq_no {a b : List UInt8} (h : a ≠ b) : (a == b) = false := by simpa using h
theorem beq_yes {a b : List UInt8} (h : a = b) : (a == b) = true := by simpa using h
set_option maxRecDepth 100000 in
set_option maxHeartbeats 1000000 in
theorem bkeep_any (s : List UInt8) (w : World) :
    Calls Tryz.prog 100 #[Sv s] w fun e w' => e = .returned (.tuple #[.int .i64 (keepS s), .bool (!(keepS s == 0))]) ∧ w' = w := by
  by_cases h1 : s = [48]
  · subst h1
    go_enter Tryz.func100, Tryz.ntmps100
    go_wp2_with fail
    go_ret2
    exact ⟨rfl, rfl⟩
  · by_cases h2 : s = [49]
    · subst h2
      go_enter Tryz.func100, Tryz.ntmps100
      go_wp2_with fail
      go_ret2
      exact ⟨rfl, rfl⟩
    · by_cases h3 : s = [100]
      · subst h3
        go_enter Tryz.func100, Tryz.ntmps100
        go_wp2_with fail
        go_ret2
        exact ⟨rfl, rfl⟩
      · have HK := hid (show keepS s = 0 by unfold keepS; rw [if_neg h1, if_neg h2, if_neg h3])
        have q1 := beq_no h1
        have q2 := beq_no h2
        have q3 := beq_no h3
        clear h1 h2 h3
        go_enter Tryz.func100, Tryz.ntmps100
        go_wp2_with fail
        go_ret2
        exact ⟨by rw [HK.out]; rfl, rfl⟩
set_option maxRecDepth 100000 in
set_option maxHeartbeats 1000000 in
theorem bletter_any (k : Int) (w : World) :
    Calls Tryz.prog 73 #[.int .i64 k] w fun e w' => e = .returned (Sv (letterS k)) ∧ w' = w := by
  by_cases h1 : k = 1
  · subst h1
    go_enter Tryz.func73, Tryz.ntmps73
    go_wp2_with fail
    go_ret
    exact ⟨rfl, rfl⟩
  · by_cases h2 : k = 2
    · subst h2
      go_enter Tryz.func73, Tryz.ntmps73
      go_wp2_with fail
      go_ret
      exact ⟨rfl, rfl⟩
    · by_cases h3 : k = 3
      · subst h3
        go_enter Tryz.func73, Tryz.ntmps73
        go_wp2_with fail
        go_ret
        exact ⟨rfl, rfl⟩
      · have HK := hid (letterS_zero (k := k) (by omega))
        go_enter Tryz.func73, Tryz.ntmps73
        go_wp2_with fail
        go_ret
        exact ⟨by rw [HK.out]; rfl, rfl⟩
def cxOut (r : Cx) : Value := .tuple #[Cv r.1 r.2.1 r.2.2.1 r.2.2.2.1, .int .i64 r.2.2.2.2]
theorem cxOut_bad (c : Int) : cxOut (cxBad c) = .tuple #[Cv (zb 16) (zb 8) (zb 8) 0, .int .i64 c] := rfl
theorem built_zctx : Tryz.prog.built 31 [] = some (cc (zb 16) (zb 8) (zb 8) 0).toArray := by kernel_rfl
theorem built_cnames (t x : List UInt8) (ht : t.length = 16) (hx : x.length = 8) : Tryz.prog.built 31 [(0, Av t), (1, Av x)] = some (cc t x (zb 8) 0).toArray := by
  obtain ⟨a0, a1, a2, a3, a4, a5, a6, a7, a8, a9, a10, a11, a12, a13, a14, a15, rfl⟩ := len16 ht
  obtain ⟨b0, b1, b2, b3, b4, b5, b6, b7, rfl⟩ := len8 hx
  kernel_rfl
set_option maxRecDepth 100000 in
set_option maxHeartbeats 2000000 in
theorem bids_any (a b : List UInt8) (w : World) (ha : a.length ≤ 140737488355328) (hb : b.length ≤ 140737488355328) :
    Calls Tryz.prog 84 #[Sv a, Sv b] w fun e w' => e = .returned (cxOut (idsR a b)) ∧ Below w.heap.size w w' := by
  have HLT := hid (traceT_length a)
  have HLX := hid (spanT_length b)
  have HF := hid ((Frm.start w).new0 31 rfl)
  have HR := hid (show cxOut (idsR a b) = if traceC a = 0 then (if spanC b = 0 then .tuple #[Cv (traceT a) (spanT b) (zb 8) 0, .int .i64 0] else .tuple #[Cv (zb 16) (zb 8) (zb 8) 0, .int .i64 (spanC b)]) else .tuple #[Cv (zb 16) (zb 8) (zb 8) 0, .int .i64 (traceC a)] by
    unfold idsR
    by_cases h1 : traceC a = 0
    · rw [if_pos h1, if_pos h1]
      by_cases h2 : spanC b = 0
      · rw [if_pos h2, if_pos h2]; rfl
      · rw [if_neg h2, if_neg h2]; rfl
    · rw [if_neg h1, if_neg h1]; rfl)
  go_enter Tryz.func84, Tryz.ntmps84
  go_wp2_with fail
  refine (readtrace_any a _ ha).mono ?_; rintro e w1 ⟨rfl, hb1⟩
  have HF1 := hid ((HF.out.call hb1).new 27 (b8s (zb 16)).toArray rfl)
  clear hb1
  generalize traceC a = ca at HR ⊢
  go_wp2_with (first
    | (refine at_store 27 (by rfl) ?_; refine wpList_put16 HF1.out 1 rfl rfl rfl (zb_length _) HLT.out rfl rfl ?_; intro w2 h2; have HF2 := hid h2; clear h2)
    | (refine at_store 31 (by rfl) ?_; refine wpList_putCv HF2.out 0 (t := zb 16) (x := zb 8) (p := zb 8) (k := 0) rfl rfl rfl okc_zero okc_zero rfl rfl ?_; intro w9 h9; have HF9 := hid h9; clear h9))
  · have q : ca ≠ 0 := neq_yes (by assumption)
    exact bodyPost_ret (results_cv2 rfl _ _ _ _ _ _ _ _ _ rfl (HF9.out.get 0 rfl) Tryz.underlying31 rfl info_ctx okc_zero) rfl ⟨by rw [HR.out, if_neg q]; rfl, HF9.out.bel⟩
  · have q : ca = 0 := neq_no (by assumption)
    refine (readspan_any b _ hb).mono ?_; rintro e w3 ⟨rfl, hb3⟩
    have HF3 := hid ((HF2.out.call hb3).new 29 (b8s (zb 8)).toArray rfl)
    clear hb3
    generalize spanC b = cb at HR ⊢
    go_wp2_with (first
      | (refine at_store 29 (by rfl) ?_; refine wpList_put8 HF3.out 2 rfl rfl rfl (zb_length _) HLX.out rfl rfl ?_; intro w4 h4; have HF4 := hid h4; clear h4)
      | (refine at_store 31 (by rfl) ?_; refine wpList_putCv HF4.out 0 (t := zb 16) (x := zb 8) (p := zb 8) (k := 0) rfl rfl rfl okc_zero okc_zero rfl rfl ?_; intro w9 h9; have HF9 := hid h9; clear h9)
      | (refine at_load 27 (by rfl) ?_; refine wpList_loadE rfl rfl (HF4.out.load16 1 rfl HLT.out) rfl ?_)
      | (refine at_load 29 (by rfl) ?_; refine wpList_loadE rfl rfl (HF4.out.load8 2 rfl HLX.out) rfl ?_)
      | (refine wpList_build2 rfl 31 0 1 _ _ rfl (Av (traceT a)) (Av (spanT b)) _ rfl rfl (built_cnames _ _ HLT.out HLX.out) ?_; change wpList _ _ _ _ (Act.put _ _ (Cv (traceT a) (spanT b) (zb 8) 0)) _)
      | (refine at_store 31 (by rfl) ?_; refine wpList_putCv HF4.out 0 rfl rfl rfl okc_zero ⟨HLT.out, HLX.out, zb_length _⟩ rfl rfl ?_; intro w9 h9; have HF9 := hid h9; clear h9))
    · have q2 : cb ≠ 0 := neq_yes (by assumption)
      exact bodyPost_ret (results_cv2 rfl _ _ _ _ _ _ _ _ _ rfl (HF9.out.get 0 rfl) Tryz.underlying31 rfl info_ctx okc_zero) rfl ⟨by rw [HR.out, if_pos q, if_neg q2]; rfl, HF9.out.bel⟩
    · have q2 : cb = 0 := neq_no (by assumption)
      exact bodyPost_ret (results_cv2 rfl _ _ _ _ _ _ _ _ _ rfl (HF9.out.get 0 rfl) Tryz.underlying31 rfl info_ctx ⟨HLT.out, HLX.out, zb_length _⟩) rfl ⟨by rw [HR.out, if_pos q, if_pos q2, q2]; rfl, HF9.out.bel⟩
end Go.Proofs.YtgfdmdikiickpaaGreatDoor

/-! BthreeB -/
namespace Go.Proofs.YtgfdmdikiickpaaGreatDoor
open Go.RowKit

def Mv (m : Mu) : Value := .agg #[Sv m.1, Sv m.2.1, Sv m.2.2.1, Sv m.2.2.2.1, Sv m.2.2.2.2]
set_option maxRecDepth 100000 in
set_option maxHeartbeats 2000000 in
theorem bsampled_any (m : Mu) (w : World) :
    Calls Tryz.prog 86 #[Mv m] w fun e w' => e = .returned (.tuple #[.int .i64 (sampR m.2.2.2.1 m.2.2.2.2).1, .int .i64 (sampR m.2.2.2.1 m.2.2.2.2).2]) ∧ Below w.heap.size w w' := by
  obtain ⟨tr, sp, pa, sa, fl⟩ := m
  unfold Mv
  go_enter Tryz.func86, Tryz.ntmps86
  go_wp2_with fail
  all_goals
    go_ret2
    exact ⟨by simp_all [sampR, sfalse, strue], ext_alloc _ _⟩
set_option maxRecDepth 100000 in
set_option maxHeartbeats 2000000 in
theorem bmay_any (t x p : List UInt8) (k : Int) (w : World) (hl : Okc t x p) :
    Calls Tryz.prog 72 #[Cv t x p k] w fun e w' => e = .returned (.tuple #[.bool (named t), .bool (mayC t x p k)]) ∧ Below w.heap.size w w' := by
  have HF := hid ((Frm.start w).new 31 (cc t x p k).toArray rfl)
  have HL := hid hl
  have eq1 := fun u => run_neq_z16 u t hl.1
  have eq2 := fun u => run_neq_z8 u x hl.2.1
  have eq3 := fun u => run_neq_z8 u p hl.2.2
  have HM := hid (show named t = !(t == zb 16) from rfl)
  have HC := hid (show mayC t x p k = (decide (0 ≤ k) && decide (k ≤ 3) && ((t == zb 16) == (x == zb 8)) && (!(t == zb 16) || (p == zb 8))) from rfl)
  generalize hA : (t == zb 16) = A at eq1 HM HC
  generalize hB : (x == zb 8) = B at eq2 HC
  generalize hC : (p == zb 8) = C at eq3 HC
  have HA := hid hA
  clear hl hA hB hC
  go_enter Tryz.func72, Tryz.ntmps72
  go_upto_region 1 with fail
  refine region_steady (fun u => Frm w u [(w.heap.size, 31, (cc t x p k).toArray)]) (by kernel_rfl) (by kernel_rfl) (HF.out.drew) ?_
  repeat (first
    | (refine steady_off (by rfl) ?_; try simp only [Act.put, List.setIfInBounds_toArray, List.set_cons_zero, List.set_cons_succ])
    | (refine steady_pure (v := ?_) (by rfl) ?_ ?_; rotate_left; (focus (intro u; go_simp; with_reducible rfl)); try simp only [Act.put, List.setIfInBounds_toArray, List.set_cons_zero, List.set_cons_succ]))
  refine steady_load 27 (.tmp 8) rfl (by rfl) (fun u h => h.loadT 0 rfl HL.out) ?_
  try simp only [Act.put, List.setIfInBounds_toArray, List.set_cons_zero, List.set_cons_succ]
  repeat (first
    | (refine steady_off (by rfl) ?_; try simp only [Act.put, List.setIfInBounds_toArray, List.set_cons_zero, List.set_cons_succ])
    | (refine steady_pure (v := ?_) (by rfl) ?_ ?_; rotate_left; (focus (intro u; go_simp; with_reducible rfl)); try simp only [Act.put, List.setIfInBounds_toArray, List.set_cons_zero, List.set_cons_succ]))
  refine steady_load 29 (.tmp 12) rfl (by rfl) (fun u h => h.loadX 0 rfl HL.out) ?_
  try simp only [Act.put, List.setIfInBounds_toArray, List.set_cons_zero, List.set_cons_succ]
  repeat (first
    | (refine steady_off (by rfl) ?_; try simp only [Act.put, List.setIfInBounds_toArray, List.set_cons_zero, List.set_cons_succ])
    | (refine steady_pure (v := ?_) (by rfl) ?_ ?_; rotate_left; (focus (intro u; go_simp; with_reducible rfl)); try simp only [Act.put, List.setIfInBounds_toArray, List.set_cons_zero, List.set_cons_succ]))
  refine steady_load 29 (.tmp 16) rfl (by rfl) (fun u h => h.loadP 0 rfl HL.out) ?_
  try simp only [Act.put, List.setIfInBounds_toArray, List.set_cons_zero, List.set_cons_succ]
  repeat (first
    | (refine steady_off (by rfl) ?_; try simp only [Act.put, List.setIfInBounds_toArray, List.set_cons_zero, List.set_cons_succ])
    | (refine steady_pure (v := ?_) (by rfl) ?_ ?_; rotate_left; (focus (intro u; go_simp; with_reducible rfl)); try simp only [Act.put, List.setIfInBounds_toArray, List.set_cons_zero, List.set_cons_succ]))
  refine steady_nil (fun w1 h1 => ?_)
  have HF1 := hid h1
  have c32 := h1.cellK 0 rfl HL.out
  clear h1 eq1 eq2 eq3
  rcases (by omega : k < 0 ∨ (0 ≤ k ∧ k ≤ 3) ∨ 3 < k) with h0 | ⟨h0, h3⟩ | h3
  · have e1 : decide (0 ≤ k) = false := by simp; omega
    rw [e1, Bool.false_and, Bool.false_and, Bool.false_and] at HC
    cases A <;> cases B <;> cases C
    all_goals
      go_wp2_with fail
      go_ret2
      exact ⟨by rw [HM.out, HC.out]; rfl, HF1.out.bel⟩
  · have e1 : decide (0 ≤ k) = true := by simp; omega
    have e2 : decide (k ≤ 3) = true := by simp; omega
    rw [e1, e2] at HC
    cases A <;> cases B <;> cases C
    all_goals
      go_wp2_with fail
      go_ret2
      exact ⟨by rw [HM.out, HC.out]; rfl, HF1.out.bel⟩
  · have e2 : decide (k ≤ 3) = false := by simp; omega
    have h0 : 0 ≤ k := by omega
    rw [e2, Bool.and_false, Bool.false_and, Bool.false_and] at HC
    cases A <;> cases B <;> cases C
    all_goals
      go_wp2_with fail
      go_ret2
      exact ⟨by rw [HM.out, HC.out]; rfl, HF1.out.bel⟩
end Go.Proofs.YtgfdmdikiickpaaGreatDoor

/-! BthreeC -/
namespace Go.Proofs.YtgfdmdikiickpaaGreatDoor
open Go.RowKit

theorem conc_one : Tryz.prog.concrete 155 = true := by kernel_rfl
theorem conc_many : Tryz.prog.concrete 158 = true := by kernel_rfl
theorem conv_dec : True := trivial
set_option maxRecDepth 100000 in
set_option maxHeartbeats 1000000 in
theorem bsplit_one (s : List UInt8) (w : World) (hs : s.length < 4294967281) (h1 : (cutB 45 s).length = 1) :
    Calls Tryz.prog 99 #[Sv s] w fun e w' => e = .returned (.iface 155 (Sv s)) ∧ Below w.heap.size w w' := by
  have hc1 := conc_one
  have hc2 := conc_many
  have HN := hid h1
  clear h1
  go_enter Tryz.func99, Tryz.ntmps99
  go_wp2_with fail
  refine (ssplit_any s 45 _ hs).mono ?_; rintro e w1 ⟨rfl, hw⟩
  rw [HN.out]
  have HB := hid (show Below w.heap.size w w1 by rw [hw]; exact ext_alloc _ _)
  clear hw
  go_wp2_with fail
  go_ret
  exact ⟨rfl, HB.out⟩
set_option maxRecDepth 100000 in
set_option maxHeartbeats 1000000 in
theorem bsplit_many (s : List UInt8) (w : World) (hs : s.length < 4294967281) (h1 : (cutB 45 s).length ≠ 1) :
    Calls Tryz.prog 99 #[Sv s] w fun e w' => e = .returned (.iface 158 (.slice (some ⟨w.heap.size, 0, none⟩) (cutB 45 s).length (cutB 45 s).length)) ∧ w' = w.alloc (.cells ((cutB 45 s).map Sv).toArray 9) := by
  have hc1 := conc_one
  have hc2 := conc_many
  generalize hn : (cutB 45 s).length = n at h1 ⊢
  have HN := hid hn
  clear hn
  have hn1 : ((n : Int) == 1) = false := by rw [beq_eq_false_iff_ne]; omega
  go_enter Tryz.func99, Tryz.ntmps99
  go_wp2_with fail
  refine (ssplit_any s 45 _ hs).mono ?_; rintro e w1 ⟨rfl, hw⟩
  rw [HN.out]
  have HW := hid hw
  clear hw
  go_wp2_with fail
  go_ret
  exact ⟨rfl, HW.out⟩
set_option maxRecDepth 100000 in
theorem parts_one (s : List UInt8) (w : World) : Calls Tryz.prog 167 #[Sv s] w fun e w' => e = .returned (.int .i64 1) ∧ w' = w := by
  go_enter Tryz.func167, Tryz.ntmps167
  go_wp2_with fail
  go_ret
  exact ⟨rfl, rfl⟩
set_option maxRecDepth 100000 in
theorem parts_many (A : Option Addr) (n c : Nat) (w : World) : Calls Tryz.prog 168 #[.slice A n c] w fun e w' => e = .returned (.int .i64 n) ∧ w' = w := by
  go_enter Tryz.func168, Tryz.ntmps168
  go_wp2_with fail
  go_ret
  exact ⟨rfl, rfl⟩
/-- The strings that lie in a slice. -/
def Lie (w : World) (g : Nat) (L : List (List UInt8)) : Prop := Blk w g 9 (L.map Sv).toArray
theorem Lie.at_ {w : World} {g : Nat} {L : List (List UInt8)} (h : Lie w g L) {k : Nat} {s : List UInt8} (hk : L[k]? = some s) : w.cell? ⟨g, k, none⟩ = some (Sv s) := by
  rw [Blk.cell h k]
  simp [hk]
end Go.Proofs.YtgfdmdikiickpaaGreatDoor

/-! BthreeD -/
namespace Go.Proofs.YtgfdmdikiickpaaGreatDoor
open Go.RowKit

theorem beqi_yes {a b : Int} (h : (a == b) = true) : a = b := by simpa using h
theorem beqi_no {a b : Int} (h : (a == b) = false) : a ≠ b := by simpa using h
/-- A frame, and behind it a block of the token's. -/
def FrmT (w0 : World) (L : List Bk) (T : TypeId) (cs : Array Value) (b : Bool) (x : Value) (u : World) : Prop :=
  if b = true then ∃ g, x = .pointer (some ⟨g, 0, none⟩) ∧ Frm w0 u (L ++ [(g, T, cs)]) else Frm w0 u L
theorem FrmT.call {w0 u : World} {L : List Bk} {T : TypeId} {cs : Array Value} {b : Bool} {x : Value} (h : FrmT w0 L T cs b x u) {fn : FuncId} {args : Array Value} {r : Value} (hc : Calls Tryz.prog fn args u fun e u' => e = .returned r ∧ Below u.heap.size u u') :
    Calls Tryz.prog fn args u fun e u' => e = .returned r ∧ FrmT w0 L T cs b x u' := hc.mono fun _ u' ⟨he, hb⟩ => ⟨he, by
  unfold FrmT at h ⊢
  cases b with
  | false => simp only [Bool.false_eq_true, if_false] at h ⊢; exact h.call hb
  | true =>
    simp only [if_true] at h ⊢
    obtain ⟨g, e, hF⟩ := h
    exact ⟨g, e, hF.call hb⟩⟩
theorem FrmT.bel {w0 u : World} {L : List Bk} {T : TypeId} {cs : Array Value} {b : Bool} {x : Value} (h : FrmT w0 L T cs b x u) : Below w0.heap.size w0 u := by
  unfold FrmT at h
  cases b with
  | false => simp only [Bool.false_eq_true, if_false] at h; exact h.bel
  | true =>
    simp only [if_true] at h
    obtain ⟨g, e, hF⟩ := h
    exact hF.bel
theorem Lie.below {w w' : World} {g : Nat} {L : List (List UInt8)} (h : Lie w g L) {B : Nat} (hb : Below B w w') (hg : g < B) : Lie w' g L := Blk.below h hb hg
theorem run_load_str {w : World} {p : Addr} {s : List UInt8} (h : w.cell? p = some (Sv s)) : (Instr.loadAt 9 (.pointer (some p))).run Tryz.prog w = .ok (Sv s) w := by go_simp
theorem store_new (u : World) (t x p : List UInt8) (k : Int) (hl : Okc t x p) :
    (storeCells ⟨u.heap.size, 0, none⟩ (cc t x p k) 0).run Tryz.prog (u.alloc (.cells #[.int .u8 0, .int .u8 0, .int .u8 0, .int .u8 0, .int .u8 0, .int .u8 0, .int .u8 0, .int .u8 0, .int .u8 0, .int .u8 0, .int .u8 0, .int .u8 0, .int .u8 0, .int .u8 0, .int .u8 0, .int .u8 0, .int .u8 0, .int .u8 0, .int .u8 0, .int .u8 0, .int .u8 0, .int .u8 0, .int .u8 0, .int .u8 0, .int .u8 0, .int .u8 0, .int .u8 0, .int .u8 0, .int .u8 0, .int .u8 0, .int .u8 0, .int .u8 0, .int .i64 0] 31)) = .ok () (u.alloc (.cells (cc t x p k).toArray 31)) := by
  have := run_storeCells_new (P := Tryz.prog) u 31 #[.int .u8 0, .int .u8 0, .int .u8 0, .int .u8 0, .int .u8 0, .int .u8 0, .int .u8 0, .int .u8 0, .int .u8 0, .int .u8 0, .int .u8 0, .int .u8 0, .int .u8 0, .int .u8 0, .int .u8 0, .int .u8 0, .int .u8 0, .int .u8 0, .int .u8 0, .int .u8 0, .int .u8 0, .int .u8 0, .int .u8 0, .int .u8 0, .int .u8 0, .int .u8 0, .int .u8 0, .int .u8 0, .int .u8 0, .int .u8 0, .int .u8 0, .int .u8 0, .int .i64 0] (cc t x p k).toArray (by rw [info_ctx]; simp [cc, hl.1, hl.2.1, hl.2.2]) (by simp [cc, hl.1, hl.2.1, hl.2.2]) (cc_one k t x p)
  simpa using this
theorem store_in {u : World} {g : Nat} {T : TypeId} (hb : Blk u g T (cc (zb 16) (zb 8) (zb 8) 0).toArray) (t x p : List UInt8) (k : Int) (hl : Okc t x p) :
    (storeCells ⟨g, 0, none⟩ (cc t x p k) 0).run Tryz.prog u = .ok () (u.setRow g (cc t x p k).toArray) := by
  have h1 := fun v (hv : v ∈ cc t x p k) => (Array.all_eq_true_iff_forall_mem.1 (cc_one k t x p)) v (by simpa using hv)
  have := run_storeCells_from (P := Tryz.prog) g T (cc t x p k) 0 _ u hb (by simp [cc, hl.1, hl.2.1, hl.2.2]) h1
  simpa using this
theorem idsR_bad {a b : List UInt8} (h : (idsR a b).2.2.2.2 ≠ 0) : idsR a b = cxBad (idsR a b).2.2.2.2 := by
  unfold idsR at h ⊢
  split
  · rename_i h1
    rw [if_pos h1] at h
    split
    · rename_i h2
      rw [if_pos h2] at h
      exact absurd rfl h
    · rfl
  · rfl
theorem oneL_bad {L : List (List UInt8)} {a b : List UInt8} (ha : L[0]? = some a) (hb : L[1]? = some b) (hn : L.length ≤ 4) (h : (idsR a b).2.2.2.2 ≠ 0) : oneL L = cxBad (idsR a b).2.2.2.2 := by
  match L, ha, hb, hn with
  | [a', b'], ha, hb, _ =>
    obtain rfl : a' = a := by simpa using ha
    obtain rfl : b' = b := by simpa using hb
    exact idsR_bad h
  | [a', b', c], ha, hb, _ =>
    obtain rfl : a' = a := by simpa using ha
    obtain rfl : b' = b := by simpa using hb
    show keepR _ _ = _
    unfold keepR
    rw [if_neg h]
    exact idsR_bad h
  | [a', b', c, d], ha, hb, _ =>
    obtain rfl : a' = a := by simpa using ha
    obtain rfl : b' = b := by simpa using hb
    show parR (keepR _ _) _ = _
    unfold parR keepR
    rw [if_neg h, if_neg h]
    exact idsR_bad h
theorem oneL_two {L : List (List UInt8)} {a b : List UInt8} (ha : L[0]? = some a) (hb : L[1]? = some b) (hn : L.length = 2) : oneL L = idsR a b := by
  match L, ha, hb, hn with
  | [a', b'], ha, hb, _ =>
    obtain rfl : a' = a := by simpa using ha
    obtain rfl : b' = b := by simpa using hb
    rfl
theorem oneL_three {L : List (List UInt8)} {a b : List UInt8} (ha : L[0]? = some a) (hb : L[1]? = some b) (hn : L.length = 3) : ∃ c, L[2]? = some c ∧ oneL L = keepR (idsR a b) c := by
  match L, ha, hb, hn with
  | [a', b', c], ha, hb, _ =>
    obtain rfl : a' = a := by simpa using ha
    obtain rfl : b' = b := by simpa using hb
    exact ⟨c, rfl, rfl⟩
theorem oneL_four {L : List (List UInt8)} {a b : List UInt8} (ha : L[0]? = some a) (hb : L[1]? = some b) (hn : L.length = 4) : ∃ c d, L[2]? = some c ∧ L[3]? = some d ∧ oneL L = parR (keepR (idsR a b) c) d := by
  match L, ha, hb, hn with
  | [a', b', c, d], ha, hb, _ =>
    obtain rfl : a' = a := by simpa using ha
    obtain rfl : b' = b := by simpa using hb
    exact ⟨c, d, rfl, rfl, rfl⟩
set_option maxRecDepth 100000 in
set_option maxHeartbeats 4000000 in
theorem bread_any (L : List (List UInt8)) (a b : List UInt8) (g : Nat) (w : World) (h : Lie w g L) (ha : L[0]? = some a) (hb : L[1]? = some b) (hn : L.length ≤ 4) (hl : ∀ s ∈ L, s.length ≤ 140737488355328) :
    Calls Tryz.prog 101 #[.slice (some ⟨g, 0, none⟩) L.length L.length] w fun e w' => e = .returned (cxOut (oneL L)) ∧ Below w.heap.size w w' := by
  have HA := hid (hl a (List.mem_of_getElem? ha))
  have HB := hid (hl b (List.mem_of_getElem? hb))
  have HL := hid h
  have HG := hid (Blk.lt h)
  obtain ⟨r, hr⟩ : ∃ r, idsR a b = r := ⟨_, rfl⟩
  have hids := fun u => bids_any a b u HA.out HB.out
  have HI0 := lenOk_ids a b
  rw [hr] at HI0 hids
  have HBAD := hid (oneL_bad ha hb hn)
  have H2 := hid (fun q => oneL_two ha hb q)
  have H3 := hid (fun q => oneL_three ha hb q)
  have H4 := hid (fun q => oneL_four ha hb q)
  have HS := hid (fun (s : List UInt8) (k : Nat) (q : L[k]? = some s) => hl s (List.mem_of_getElem? q))
  rw [hr] at HBAD H2 H3 H4
  clear hr
  obtain ⟨it, ix, ip, ik, ic⟩ := r
  have HI : Hid (Okc it ix ip) := HI0
  clear HI0
  unfold cxOut at hids
  simp only at hids
  have hn2 : 2 ≤ L.length := by
    rcases Nat.lt_or_ge 1 L.length with q | q
    · exact q
    · rw [List.getElem?_eq_none (by omega)] at hb; cases hb
  obtain ⟨c0, c1⟩ : w.cell? ⟨g, 0, none⟩ = some (Sv a) ∧ w.cell? ⟨g, 1, none⟩ = some (Sv b) := ⟨h.at_ ha, h.at_ hb⟩
  have HC0 := hid c0
  have HC1 := hid c1
  clear c0 c1 h
  have HF := hid ((Frm.start w).new0 31 rfl)
  generalize hW : w.alloc (.cells #[.int .u8 0, .int .u8 0, .int .u8 0, .int .u8 0, .int .u8 0, .int .u8 0, .int .u8 0, .int .u8 0, .int .u8 0, .int .u8 0, .int .u8 0, .int .u8 0, .int .u8 0, .int .u8 0, .int .u8 0, .int .u8 0, .int .u8 0, .int .u8 0, .int .u8 0, .int .u8 0, .int .u8 0, .int .u8 0, .int .u8 0, .int .u8 0, .int .u8 0, .int .u8 0, .int .u8 0, .int .u8 0, .int .u8 0, .int .u8 0, .int .u8 0, .int .u8 0, .int .i64 0] 31) = W1 at HF
  have HW := hid hW
  have HC := hid (show ∀ u, Below W1.heap.size W1 u → u.cell? ⟨g, 0, none⟩ = some (Sv a) ∧ u.cell? ⟨g, 1, none⟩ = some (Sv b) from fun u hu => by
    have hb1 : Below w.heap.size w u := by rw [← hW] at hu; exact (ext_alloc w _).trans (hu.mono (ext_alloc w _).size)
    exact ⟨(hb1.cell (p := ⟨g, 0, none⟩) HG.out).trans HC0.out, (hb1.cell (p := ⟨g, 1, none⟩) HG.out).trans HC1.out⟩)
  clear hW ha hb hl
  obtain ⟨n, hN⟩ : ∃ n, L.length = n := ⟨_, rfl⟩
  have HN := hid hN
  rw [hN]
  rw [hN] at hn hn2
  clear hN
  have q0 : (0 : Int) < (n : Int) ∧ (1 : Int) < (n : Int) := by omega
  obtain ⟨q0, q1⟩ := q0
  have q2 : 0 < n := by omega
  have hlen : (cc it ix ip ik).length = 33 := by simp [cc, HI.out.1, HI.out.2.1, HI.out.2.2]
  have hsc := fun (u : World) => store_new u it ix ip ik HI.out
  go_enter Tryz.func101, Tryz.ntmps101
  go_upto_region 1 with fail
  rw [HW.out]
  go_region_held3 (fun u => u.cell? ⟨g, 0, none⟩ = some (Sv a) ∧ u.cell? ⟨g, 1, none⟩ = some (Sv b))
    ((refine HC.out _ ?_; first | exact ext_drew _ | assumption | exact ext_trans (ext_drew _) (by assumption) | exact ext_trans (ext_trans (ext_drew _) (ext_alloc _ _)) (by assumption) | exact ext_trans (ext_trans (ext_drew _) (by assumption)) (ext_alloc _ _) | exact setRow_below (ext_trans (ext_trans (ext_drew _) (ext_alloc _ _)) (by assumption)) (Nat.le_refl _) _ | exact ext_trans (by assumption) (ext_alloc _ _) | exact ext_trans (ext_drew _) (ext_alloc _ _)))
    (first
      | (go_at_call 84; (with_reducible refine (hids _).mono ?_); rintro e wn ⟨rfl, hbn⟩; try have hsb := store_in (((HF.out.drew.new0 31 (n := W1.heap.size) rfl).call hbn).get 1 rfl) it ix ip ik HI.out))
  case' refine_2.refine_3.refine_3.refine_3.refine_3.refine_3.refine_3.refine_2.refine_1.refine_2.refine_1.refine_2.refine_3.refine_3.refine_3.refine_1.refine_2.refine_3 =>
    have HF4 : Hid (Frm w (wn.setRow W1.heap.size (cc it ix ip ik).toArray) [(w.heap.size, 31, (cc (zb 16) (zb 8) (zb 8) 0).toArray), (W1.heap.size, 31, (cc it ix ip ik).toArray)]) := ((HF.out.drew.new0 31 (n := W1.heap.size) rfl).call hbn).setRow 1 rfl _
    clear hsb hbn
    generalize wn.setRow W1.heap.size (cc it ix ip ik).toArray = w4 at HF4 ⊢
    generalize W1.heap.size = G at HF4 ⊢
  case' refine_2.refine_3.refine_3.refine_3.refine_3.refine_3.refine_3.refine_1.refine_2.refine_3.refine_3.refine_3.refine_1.refine_2.refine_1.refine_2.refine_3 =>
    have HF4 : Hid (Frm w (wn.alloc (.cells (cc it ix ip ik).toArray 31)) [(w.heap.size, 31, (cc (zb 16) (zb 8) (zb 8) 0).toArray), (wn.heap.size, 31, (cc it ix ip ik).toArray)]) := (HF.out.drew.call hbn).new 31 (cc it ix ip ik).toArray rfl
    clear hbn
    generalize wn.alloc (.cells (cc it ix ip ik).toArray 31) = w4 at HF4 ⊢
    generalize wn.heap.size = G at HF4 ⊢
  all_goals
    clear HF HW HC hsc hlen hids HC0 HC1 HA HB q0 q1 q2
    have e0 := HN.out
    rcases (by omega : n = 2 ∨ n = 3 ∨ n = 4) with rfl | rfl | rfl
    · have HO := hid (H2.out e0)
      clear H2 H3 H4 HN e0
      go_wp2_with (first
        | (refine at_store 31 (by rfl) ?_; refine wpList_putCv HF4.out 0 (t := zb 16) (x := zb 8) (p := zb 8) (k := 0) rfl rfl rfl okc_zero okc_zero rfl rfl ?_; intro w9 h9; have HF9 := hid h9; clear h9)
        | (refine at_load 31 (by rfl) ?_; refine wpList_loadE rfl rfl (HF4.out.loadCv 1 rfl HI.out) rfl ?_)
        | (refine at_store 31 (by rfl) ?_; refine wpList_putCv HF4.out 0 rfl rfl rfl okc_zero HI.out rfl rfl ?_; intro w9 h9; have HF9 := hid h9; clear h9))
      · have q : ic ≠ 0 := neq_yes (by assumption)
        exact bodyPost_ret (results_cv2 rfl _ _ _ _ _ _ _ _ _ rfl (HF9.out.get 0 rfl) Tryz.underlying31 rfl info_ctx okc_zero) rfl ⟨by rw [HBAD.out q]; rfl, HF9.out.bel⟩
      · have q : ic = 0 := neq_no (by assumption)
        subst q
        exact bodyPost_ret (results_cv2 rfl _ _ _ _ _ _ _ _ _ rfl (HF9.out.get 0 rfl) Tryz.underlying31 rfl info_ctx HI.out) rfl ⟨by rw [HO.out]; rfl, HF9.out.bel⟩
    · obtain ⟨c, hc3, hO⟩ := H3.out e0
      have HO := hid hO
      have c2 := (HL.out.below HF4.out.bel HG.out).at_ hc3
      clear H2 H3 H4 HN e0 hO hc3
      generalize hk : keepS c = kc
      have HK := hid hk
      have hkeep := fun u => bkeep_any c u
      rw [hk] at hkeep
      clear hk
      go_wp2_with (first
        | (refine at_store 31 (by rfl) ?_; refine wpList_putCv HF4.out 0 (t := zb 16) (x := zb 8) (p := zb 8) (k := 0) rfl rfl rfl okc_zero okc_zero rfl rfl ?_; intro w9 h9; have HF9 := hid h9; clear h9)
        | (go_at_call 100; refine (hkeep _).mono ?_; rintro e w5 ⟨rfl, rfl⟩)
        | (refine at_store 3 (by rfl) ?_; refine wpList_putK HF4.out 1 rfl rfl rfl HI.out rfl rfl ?_; intro w6 h6; have HF6 := hid h6; clear h6)
        | (refine at_load 31 (by rfl) ?_; refine wpList_loadE rfl rfl (HF6.out.loadCv 1 rfl HI.out) rfl ?_)
        | (refine at_store 31 (by rfl) ?_; refine wpList_putCv HF6.out 0 rfl rfl rfl okc_zero HI.out rfl rfl ?_; intro w9 h9; have HF9 := hid h9; clear h9))
      · have q : ic ≠ 0 := neq_yes (by assumption)
        exact bodyPost_ret (results_cv2 rfl _ _ _ _ _ _ _ _ _ rfl (HF9.out.get 0 rfl) Tryz.underlying31 rfl info_ctx okc_zero) rfl ⟨by rw [HBAD.out q]; rfl, HF9.out.bel⟩
      · have q : ic = 0 := neq_no (by assumption)
        have q2 : kc = 0 := beqi_yes (by assumption)
        exact bodyPost_ret (results_cv2 rfl _ _ _ _ _ _ _ _ _ rfl (HF9.out.get 0 rfl) Tryz.underlying31 rfl info_ctx okc_zero) rfl ⟨by rw [HO.out, show keepR (it, ix, ip, ik, ic) c = cxBad 3 by unfold keepR; rw [if_pos q, HK.out, if_pos q2]]; rfl, HF9.out.bel⟩
      · have q : ic = 0 := neq_no (by assumption)
        have q2 : kc ≠ 0 := beqi_no (by assumption)
        exact bodyPost_ret (results_cv2 rfl _ _ _ _ _ _ _ _ _ rfl (HF9.out.get 0 rfl) Tryz.underlying31 rfl info_ctx HI.out) rfl ⟨by rw [HO.out, show keepR (it, ix, ip, ik, ic) c = (it, ix, ip, kc, 0) by unfold keepR; rw [if_pos q, HK.out, if_neg q2]]; rfl, HF9.out.bel⟩
    · obtain ⟨c, d, hc3, hd3, hO⟩ := H4.out e0
      have HO := hid hO
      have HD := hid hd3
      have HSD := hid (HS.out d 3 hd3)
      have HLD := hid (spanT_length d)
      have c2 := (HL.out.below HF4.out.bel HG.out).at_ hc3
      clear H2 H3 H4 HN e0 hO hc3 hd3
      generalize hk : keepS c = kc
      have HK := hid hk
      have hkeep := fun u => bkeep_any c u
      rw [hk] at hkeep
      clear hk
      generalize hs : spanC d = dc
      have HDC := hid hs
      have hspan := fun u => readspan_any d u HSD.out
      rw [hs] at hspan
      clear hs
      go_wp2_with (first
        | (refine at_store 31 (by rfl) ?_; refine wpList_putCv HF4.out 0 (t := zb 16) (x := zb 8) (p := zb 8) (k := 0) rfl rfl rfl okc_zero okc_zero rfl rfl ?_; intro w9 h9; have HF9 := hid h9; clear h9)
        | (go_at_call 100; refine (hkeep _).mono ?_; rintro e w5 ⟨rfl, rfl⟩)
        | (refine at_store 3 (by rfl) ?_; refine wpList_putK HF4.out 1 rfl rfl rfl HI.out rfl rfl ?_; intro w6 h6; have HF6 := hid h6; have c3 := (HL.out.below h6.bel HG.out).at_ HD.out; clear h6)
        | (go_at_call 85; refine (hspan _).mono ?_; rintro e w7 ⟨rfl, hb7⟩; have HF7 := hid ((HF6.out.call hb7).new 29 (b8s (zb 8)).toArray rfl); clear hb7)
        | (refine at_store 29 (by rfl) ?_; refine wpList_put8 HF7.out 2 rfl rfl rfl (zb_length _) HLD.out rfl rfl ?_; intro w8 h8; have HF8 := hid h8; clear h8)
        | (refine at_store 31 (by rfl) ?_; refine wpList_putCv HF8.out 0 (t := zb 16) (x := zb 8) (p := zb 8) (k := 0) rfl rfl rfl okc_zero okc_zero rfl rfl ?_; intro w9 h9; have HF9 := hid h9; clear h9)
        | (refine at_load 29 (by rfl) ?_; refine wpList_loadE rfl rfl (HF8.out.load8 2 rfl HLD.out) rfl ?_)
        | (refine at_store 29 (by rfl) ?_; refine wpList_putP HF8.out 1 rfl rfl rfl HI.out HLD.out rfl rfl ?_; intro w8' h8; have HFp := hid h8; clear h8)
        | (refine at_load 31 (by rfl) ?_; refine wpList_loadE rfl rfl (HFp.out.loadCv 1 rfl ⟨HI.out.1, HI.out.2.1, HLD.out⟩) rfl ?_)
        | (refine at_store 31 (by rfl) ?_; refine wpList_putCv HFp.out 0 rfl rfl rfl okc_zero ⟨HI.out.1, HI.out.2.1, HLD.out⟩ rfl rfl ?_; intro w9 h9; have HF9 := hid h9; clear h9))
      · have q : ic ≠ 0 := neq_yes (by assumption)
        exact bodyPost_ret (results_cv2 rfl _ _ _ _ _ _ _ _ _ rfl (HF9.out.get 0 rfl) Tryz.underlying31 rfl info_ctx okc_zero) rfl ⟨by rw [HBAD.out q]; rfl, HF9.out.bel⟩
      · have q : ic = 0 := neq_no (by assumption)
        have q2 : kc = 0 := beqi_yes (by assumption)
        exact bodyPost_ret (results_cv2 rfl _ _ _ _ _ _ _ _ _ rfl (HF9.out.get 0 rfl) Tryz.underlying31 rfl info_ctx okc_zero) rfl ⟨by rw [HO.out, show keepR (it, ix, ip, ik, ic) c = cxBad 3 by unfold keepR; rw [if_pos q, HK.out, if_pos q2]]; rfl, HF9.out.bel⟩
      · have q : ic = 0 := neq_no (by assumption)
        have q2 : kc ≠ 0 := beqi_no (by assumption)
        have q3 : dc ≠ 0 := neq_yes (by assumption)
        exact bodyPost_ret (results_cv2 rfl _ _ _ _ _ _ _ _ _ rfl (HF9.out.get 0 rfl) Tryz.underlying31 rfl info_ctx okc_zero) rfl ⟨by rw [HO.out, show keepR (it, ix, ip, ik, ic) c = (it, ix, ip, kc, 0) by unfold keepR; rw [if_pos q, HK.out, if_neg q2]]; unfold parR; rw [if_pos rfl, HDC.out, if_neg q3]; rfl, HF9.out.bel⟩
      · have q : ic = 0 := neq_no (by assumption)
        have q2 : kc ≠ 0 := beqi_no (by assumption)
        have q3 : dc = 0 := neq_no (by assumption)
        exact bodyPost_ret (results_cv2 rfl _ _ _ _ _ _ _ _ _ rfl (HF9.out.get 0 rfl) Tryz.underlying31 rfl info_ctx ⟨HI.out.1, HI.out.2.1, HLD.out⟩) rfl ⟨by rw [HO.out, show keepR (it, ix, ip, ik, ic) c = (it, ix, ip, kc, 0) by unfold keepR; rw [if_pos q, HK.out, if_neg q2]]; unfold parR; rw [if_pos rfl, HDC.out, if_pos q3]; rfl, HF9.out.bel⟩
end Go.Proofs.YtgfdmdikiickpaaGreatDoor

/-! BthreeE -/
namespace Go.Proofs.YtgfdmdikiickpaaGreatDoor
open Go.RowKit

theorem cutB_mem {c : UInt8} : ∀ {s : List UInt8}, c ∈ s → 2 ≤ (cutB c s).length
  | x :: r, h => by
    have hne := cutB_ne c r
    have h1 : 1 ≤ (cutB c r).length := by
      cases hq : cutB c r with
      | nil => exact absurd hq hne
      | cons a t => simp
    by_cases e : x = c
    · subst e
      rw [cutB_eq]
      simp only [List.length_cons]; omega
    · have hr : c ∈ r := by
        rcases List.mem_cons.1 h with q | q
        · exact absurd q.symm e
        · exact q
      have := cutB_mem hr
      rw [cutB_cons e]
      simp only [List.length_cons, List.length_tail]; omega
theorem cutB_one {c : UInt8} {s : List UInt8} (h : (cutB c s).length = 1) : cutB c s = [s] :=
  cutB_none (fun hm => by have := cutB_mem hm; omega)
theorem cutB_pos (c : UInt8) (s : List UInt8) : 1 ≤ (cutB c s).length := by
  cases h : cutB c s with
  | nil => exact absurd h (cutB_ne c s)
  | cons a t => simp
theorem meth_one (n : Nat) (s : List UInt8) (w : World) : (method (n + 1) 155 (Sv s) "truchman/b3.parts").run Tryz.prog w = .ok (167, Sv s) w := by kernel_rfl
theorem meth_many (n : Nat) (A : Option Addr) (k c : Nat) (w : World) : (method (n + 1) 158 (.slice A k c) "truchman/b3.parts").run Tryz.prog w = .ok (168, .slice A k c) w := by kernel_rfl
theorem ta_one (s : List UInt8) (w : World) : (Instr.typeAssert (.iface 155 (Sv s)) 152 155 true).run Tryz.prog w = .ok (.tuple #[Sv s, .bool true]) w := by kernel_rfl
theorem ta_miss (A : Option Addr) (k c : Nat) (w : World) : (Instr.typeAssert (.iface 158 (.slice A k c)) 152 155 true).run Tryz.prog w = .ok (.tuple #[Sv [], .bool false]) w := by kernel_rfl
theorem ta_many (A : Option Addr) (k c : Nat) (w : World) : (Instr.typeAssert (.iface 158 (.slice A k c)) 152 158 true).run Tryz.prog w = .ok (.tuple #[.slice A k c, .bool true]) w := by kernel_rfl
theorem built_konly (k : Int) : Tryz.prog.built 31 [(3, .int .i64 k)] = some (cc (zb 16) (zb 8) (zb 8) k).toArray := by kernel_rfl
theorem wpList_build1 {ops : Array Oper} {rest : List Oper} {o : Oper} {a : Act} {w : World} {Q : Exit → Act → World → Prop} (hgd : o.guard = none) (ty : TypeId) (i0 : Nat) (x0 : Operand) (ho : o.op = .build ty #[(i0, x0)])
    (v0 : Value) (cells : Array Value) (h0 : a.eval x0 = v0) (hb : Tryz.prog.built ty [(i0, v0)] = some cells)
    (h : wpList Tryz.prog ops Q rest (a.put o.dst (.agg cells)) w) : wpList Tryz.prog ops Q (o :: rest) a w :=
  wpList_build_to hgd ty _ ho _ cells (by simp [h0]) hb h
set_option maxRecDepth 100000 in
set_option maxHeartbeats 4000000 in
theorem breadone_one (s : List UInt8) (w : World) (hs : s.length < 4294967281) (h1 : (cutB 45 s).length = 1) :
    Calls Tryz.prog 60 #[Sv s] w fun e w' => e = .returned (cxOut (oneR s)) ∧ Below w.heap.size w w' := by
  have HO := hid (show oneR s = if keepS s = 0 then cxBad 3 else (zb 16, zb 8, zb 8, keepS s, 0) by unfold oneR; rw [cutB_one h1]; rfl)
  have H1 := hid h1
  have HF := hid ((Frm.start w).new0 31 rfl)
  clear h1
  have hm := fun n => meth_one n s
  have ht := ta_one s
  generalize hk : keepS s = k at HO
  have hkeep := fun u => bkeep_any s u
  rw [hk] at hkeep
  clear hk
  go_enter Tryz.func60, Tryz.ntmps60
  go_wp2_with fail
  refine (bsplit_one s _ hs H1.out).mono ?_; rintro e w1 ⟨rfl, hb1⟩
  have HF1 := hid (HF.out.call hb1)
  clear hb1
  go_wp2_with (first
    | (go_at_call 167; refine (parts_one s _).mono ?_; rintro e w2 ⟨rfl, hw2⟩; have HF2 := hid (HF1.out.call (w' := w2) (by rw [hw2]; exact Below.refl _ _)); clear hw2)
    | (go_at_call 100; refine (hkeep _).mono ?_; rintro e w5 ⟨rfl, hw5⟩; have HF5 := hid (HF2.out.call (w' := w5) (by rw [hw5]; exact Below.refl _ _)); clear hw5)
    | (refine wpList_build1 rfl 31 3 _ rfl (.int .i64 k) _ rfl (built_konly k) ?_; change wpList _ _ _ _ (Act.put _ _ (Cv (zb 16) (zb 8) (zb 8) k)) _)
    | (refine at_store 31 (by rfl) ?_; refine wpList_putCv HF5.out 0 (t := zb 16) (x := zb 8) (p := zb 8) (k := 0) rfl rfl rfl okc_zero okc_zero rfl rfl ?_; intro w9 h9; have HF9 := hid h9; clear h9)
    | (refine at_store 31 (by rfl) ?_; refine wpList_putCv HF5.out 0 (t := zb 16) (x := zb 8) (p := zb 8) (k := k) rfl rfl rfl okc_zero okc_zero rfl rfl ?_; intro w9 h9; have HF9 := hid h9; clear h9))
  · have q2 : k = 0 := beqi_yes (by assumption)
    exact bodyPost_ret (results_cv2 rfl _ _ _ _ _ _ _ _ _ rfl (HF9.out.get 0 rfl) Tryz.underlying31 rfl info_ctx okc_zero) rfl ⟨by rw [HO.out, if_pos q2]; rfl, HF9.out.bel⟩
  · have q2 : k ≠ 0 := beqi_no (by assumption)
    exact bodyPost_ret (results_cv2 rfl _ _ _ _ _ _ _ _ _ rfl (HF9.out.get 0 rfl) Tryz.underlying31 rfl info_ctx okc_zero) rfl ⟨by rw [HO.out, if_neg q2]; rfl, HF9.out.bel⟩
theorem pieces (c : UInt8) {s : List UInt8} {n : Nat} (hs : s.length ≤ n) : ∀ q ∈ cutB c s, q.length ≤ n := fun q hq => Nat.le_trans (cutB_flat c s q hq) hs
set_option maxRecDepth 100000 in
set_option maxHeartbeats 4000000 in
theorem breadone_many (s : List UInt8) (w : World) (hs : s.length < 4294967281) (h1 : (cutB 45 s).length ≠ 1) :
    Calls Tryz.prog 60 #[Sv s] w fun e w' => e = .returned (cxOut (oneR s)) ∧ Below w.heap.size w w' := by
  have HP := hid (pieces 45 (s := s) (n := 140737488355328) (by omega))
  have HS := hid (bsplit_many s · hs h1)
  have h2 : 2 ≤ (cutB 45 s).length := by have := cutB_pos 45 s; omega
  obtain ⟨a, ha⟩ : ∃ a, (cutB 45 s)[0]? = some a := ⟨(cutB 45 s)[0], List.getElem?_eq_getElem (by omega)⟩
  obtain ⟨b, hb⟩ : ∃ b, (cutB 45 s)[1]? = some b := ⟨(cutB 45 s)[1], List.getElem?_eq_getElem (by omega)⟩
  have HR := hid (show oneR s = oneL (cutB 45 s) from rfl)
  generalize cutB 45 s = L at *
  have HF := hid ((Frm.start w).new0 31 rfl)
  by_cases h4 : 4 < L.length
  · have HO := hid (show oneL L = cxBad 3 from oneL_many h4)
    have hm := fun n A c => meth_many n A L.length c
    obtain ⟨n, hn⟩ : ∃ n, L.length = n := ⟨_, rfl⟩
    rw [hn] at HS h4 hm
    clear hn h1 h2 ha hb
    have q4 : (4 : Int) < (n : Int) := by omega
    go_enter Tryz.func60, Tryz.ntmps60
    go_wp2_with fail
    refine (HS.out _).mono ?_; rintro e w1 ⟨rfl, hw1⟩
    have HF1 := hid (HF.out.call (w' := w1) (by rw [hw1]; exact ext_alloc _ _))
    clear hw1
    go_wp2_with (first
      | (go_at_call 168; refine (parts_many _ n _ _).mono ?_; rintro e w2 ⟨rfl, hw2⟩; have HF2 := hid (HF1.out.call (w' := w2) (by rw [hw2]; exact Below.refl _ _)); clear hw2)
      | (refine at_store 31 (by rfl) ?_; refine wpList_putCv HF2.out 0 (t := zb 16) (x := zb 8) (p := zb 8) (k := 0) rfl rfl rfl okc_zero okc_zero rfl rfl ?_; intro w9 h9; have HF9 := hid h9; clear h9))
    exact bodyPost_ret (results_cv2 rfl _ _ _ _ _ _ _ _ _ rfl (HF9.out.get 0 rfl) Tryz.underlying31 rfl info_ctx okc_zero) rfl ⟨by rw [HR.out, HO.out]; rfl, HF9.out.bel⟩
  · have HREAD := hid (fun (g : Nat) (u : World) (q : Lie u g L) => bread_any L a b g u q ha hb (by omega) HP.out)
    have HOK := hid (lenOk_one L)
    generalize hr : oneL L = r at HR HREAD HOK
    clear hr
    obtain ⟨it, ix, ip, ik, ic⟩ := r
    have HI : Hid (Okc it ix ip) := HOK.out
    unfold cxOut at HREAD
    simp only at HREAD
    have hm := fun n A c => meth_many n A L.length c
    have htm := fun A c => ta_miss A L.length c
    have hth := fun A c => ta_many A L.length c
    obtain ⟨n, hn⟩ : ∃ n, L.length = n := ⟨_, rfl⟩
    rw [hn] at HS h4 hm HREAD htm hth
    clear hn h1 h2 ha hb HOK HP
    have q4 : (n : Int) ≤ 4 := by omega
    go_enter Tryz.func60, Tryz.ntmps60
    go_wp2_with fail
    refine (HS.out _).mono ?_; rintro e w1 ⟨rfl, hw1⟩
    have HLIE := hid (show Lie w1 (w.heap.size + 1) L by
      have := Blk.new (w.alloc (.cells #[.int .u8 0, .int .u8 0, .int .u8 0, .int .u8 0, .int .u8 0, .int .u8 0, .int .u8 0, .int .u8 0, .int .u8 0, .int .u8 0, .int .u8 0, .int .u8 0, .int .u8 0, .int .u8 0, .int .u8 0, .int .u8 0, .int .u8 0, .int .u8 0, .int .u8 0, .int .u8 0, .int .u8 0, .int .u8 0, .int .u8 0, .int .u8 0, .int .u8 0, .int .u8 0, .int .u8 0, .int .u8 0, .int .u8 0, .int .u8 0, .int .u8 0, .int .u8 0, .int .i64 0] 31)) 9 (L.map Sv).toArray
      rw [size_alloc] at this
      rw [hw1]
      exact this)
    have HF1 := hid (HF.out.call (w' := w1) (by rw [hw1]; exact ext_alloc _ _))
    clear hw1 HS
    go_wp2_with (first
      | (go_at_call 168; refine (parts_many _ n _ _).mono ?_; rintro e w2 ⟨rfl, hw2⟩; have HF2 := hid (HF1.out.call (w' := w2) (by rw [hw2]; exact Below.refl _ _)); have HL2 := hid (show Lie w2 (w.heap.size + 1) L from hw2 ▸ HLIE.out); clear hw2)
      | (go_at_call 101; refine (HREAD.out _ _ HL2.out).mono ?_; rintro e w3 ⟨rfl, hb3⟩; have HF3 := hid (HF2.out.call hb3); clear hb3)
      | (refine at_store 31 (by rfl) ?_; refine wpList_putCv HF3.out 0 rfl rfl rfl okc_zero HI.out rfl rfl ?_; intro w9 h9; have HF9 := hid h9; clear h9))
    exact bodyPost_ret (results_cv2 rfl _ _ _ _ _ _ _ _ _ rfl (HF9.out.get 0 rfl) Tryz.underlying31 rfl info_ctx HI.out) rfl ⟨by rw [HR.out]; rfl, HF9.out.bel⟩
theorem breadone_any (s : List UInt8) (w : World) (hs : s.length < 4294967281) :
    Calls Tryz.prog 60 #[Sv s] w fun e w' => e = .returned (cxOut (oneR s)) ∧ Below w.heap.size w w' := by
  by_cases h1 : (cutB 45 s).length = 1
  · exact breadone_one s w hs h1
  · exact breadone_many s w hs h1
end Go.Proofs.YtgfdmdikiickpaaGreatDoor

/-! BthreeF -/
namespace Go.Proofs.YtgfdmdikiickpaaGreatDoor
open Go.RowKit

theorem named_t {t : List UInt8} : named t = true ↔ t ≠ zb 16 := by simp [named]
theorem frm_call {w0 u : World} {L : List Bk} (s : Frm w0 u L) {f : FuncId} {args : Array Value} {v : Value} (k : Calls Tryz.prog f args u fun e u' => e = .returned v ∧ Below u.heap.size u u') :
    Calls Tryz.prog f args u fun e u' => e = .returned v ∧ Frm w0 u' L := k.mono fun _ _ ⟨he, hb⟩ => ⟨he, s.call hb⟩
theorem letter_len (k : Int) : (letterS k).length ≤ 1 := letterS_len k
set_option maxRecDepth 100000 in
set_option maxHeartbeats 4000000 in
theorem btextone_any (t x p : List UInt8) (k : Int) (w : World) (hl : Okc t x p) :
    Calls Tryz.prog 39 #[Cv t x p k] w fun e w' => e = .returned (Sv (oneT t x p k)) ∧ Below w.heap.size w w' := by
  have HF := hid ((Frm.start w).new 31 (cc t x p k).toArray rfl)
  have HL := hid hl
  have eq3 := fun u => run_neq_z8 u p hl.2.2
  obtain ⟨E, hE⟩ : ∃ E, hexEnc t = E := ⟨_, rfl⟩
  obtain ⟨D, hD⟩ : ∃ D, hexEnc x = D := ⟨_, rfl⟩
  obtain ⟨G, hG⟩ : ∃ G, hexEnc p = G := ⟨_, rfl⟩
  have le : E.length = 32 := by rw [← hE, hexEnc_length, hl.1]
  have ld : D.length = 16 := by rw [← hD, hexEnc_length, hl.2.1]
  have lg : G.length = 16 := by rw [← hG, hexEnc_length, hl.2.2]
  have hmay := fun u => bmay_any t x p k u hl
  have htt := fun u => tracetext_any t u hl.1
  have hxt := fun u => spantext_any x u hl.2.1
  have hpt := fun u => spantext_any p u hl.2.2
  rw [hE] at htt
  rw [hD] at hxt
  rw [hG] at hpt
  have HO := hid (show oneT t x p k = if mayC t x p k = true then (if named t = true then E ++ [45] ++ D ++ (if k = 0 then [] else [45] ++ letterS k ++ (if (p == zb 8) = true then [] else [45] ++ G)) else letterS k) else [] by
    unfold oneT
    rw [hE, hD, hG]
    by_cases m : mayC t x p k = true
    · rw [if_pos m, if_pos m]
      by_cases q : t = zb 16
      · rw [if_pos q, if_neg (by rw [named_t]; exact fun h => h q)]
      · rw [if_neg q, if_pos (named_t.2 q)]
        simp
    · rw [if_neg m, if_neg m])
  have l1 := letterS_len k
  obtain ⟨K, hK⟩ : ∃ K, letterS k = K := ⟨_, rfl⟩
  have hlet := fun u => bletter_any k u
  rw [hK] at hlet HO l1
  clear hE hD hG hl hK
  cases hm : mayC t x p k with
  | false =>
    rw [hm, if_neg (by simp)] at HO
    rw [hm] at hmay
    clear hm
    go_enter Tryz.func39, Tryz.ntmps39
    go_wp2_with (first
      | (refine at_load 31 (by rfl) ?_; refine wpList_loadE rfl rfl (HF.out.loadCv 0 rfl HL.out) rfl ?_)
      | (go_at_call 72; refine (hmay _).mono ?_; rintro e w1 ⟨rfl, hb1⟩; have HF1 := hid (HF.out.call hb1); clear hb1))
    go_ret
    exact ⟨by rw [HO.out]; rfl, HF1.out.bel⟩
  | true =>
    rw [hm, if_pos rfl] at HO
    rw [hm] at hmay
    clear hm
    cases hn : named t with
    | false =>
      rw [hn, if_neg (by simp)] at HO
      rw [hn] at hmay
      clear hn
      go_enter Tryz.func39, Tryz.ntmps39
      go_wp2_with (first
        | (refine at_load 31 (by rfl) ?_; refine wpList_loadE rfl rfl (HF.out.loadCv 0 rfl HL.out) rfl ?_)
        | (go_at_call 72; refine (hmay _).mono ?_; rintro e w1 ⟨rfl, hb1⟩; have HF1 := hid (HF.out.call hb1); have c32 := HF1.out.cellK 0 rfl HL.out; clear hb1)
        | (go_at_call 73; refine (hlet _).mono ?_; rintro e w2 ⟨rfl, hw2⟩; have HF2 := hid (HF1.out.call (w' := w2) (by rw [hw2]; exact Below.refl _ _)); clear hw2))
      go_ret
      exact ⟨by rw [HO.out]; rfl, HF2.out.bel⟩
    | true =>
      rw [hn, if_pos rfl] at HO
      rw [hn] at hmay
      clear hn
      generalize hC : (p == zb 8) = C at eq3 HO
      clear hC
      go_enter Tryz.func39, Tryz.ntmps39
      go_upto_region 6 with (first
        | (refine at_load 31 (by rfl) ?_; refine wpList_loadE rfl rfl (HF.out.loadCv 0 rfl HL.out) rfl ?_)
        | (go_at_call 72; refine (hmay _).mono ?_; rintro e w1 ⟨rfl, hb1⟩; have HF1 := hid (HF.out.call hb1); clear hb1))
      refine region_steady (fun u => Frm w u [(w.heap.size, 31, (cc t x p k).toArray)]) (by kernel_rfl) (by kernel_rfl) (HF1.out.drew) ?_
      repeat (first
        | (refine steady_off (by rfl) ?_; try simp only [Act.put, List.setIfInBounds_toArray, List.set_cons_zero, List.set_cons_succ])
        | (refine steady_pure (v := ?_) (by rfl) ?_ ?_; rotate_left; (focus (intro u; go_simp; with_reducible rfl)); try simp only [Act.put, List.setIfInBounds_toArray, List.set_cons_zero, List.set_cons_succ]))
      refine steady_load 27 (.tmp 18) rfl (by rfl) (fun u h => h.loadT 0 rfl HL.out) ?_
      try simp only [Act.put, List.setIfInBounds_toArray, List.set_cons_zero, List.set_cons_succ]
      refine steady_call (fun u h => frm_call h (htt u)) (by rfl) (fun u => by go_simp) ?_
      try simp only [Act.put, List.setIfInBounds_toArray, List.set_cons_zero, List.set_cons_succ]
      (refine steady_add _ _ _ _ rfl (by rfl) (by rfl) ?_ (by rfl) ?_; (focus (simp only [List.length_cons, List.length_nil]; omega)); try simp only [Act.put, List.setIfInBounds_toArray, List.set_cons_zero, List.set_cons_succ])
      repeat (first
        | (refine steady_off (by rfl) ?_; try simp only [Act.put, List.setIfInBounds_toArray, List.set_cons_zero, List.set_cons_succ])
        | (refine steady_pure (v := ?_) (by rfl) ?_ ?_; rotate_left; (focus (intro u; go_simp; with_reducible rfl)); try simp only [Act.put, List.setIfInBounds_toArray, List.set_cons_zero, List.set_cons_succ]))
      refine steady_load 29 (.tmp 22) rfl (by rfl) (fun u h => h.loadX 0 rfl HL.out) ?_
      try simp only [Act.put, List.setIfInBounds_toArray, List.set_cons_zero, List.set_cons_succ]
      refine steady_call (fun u h => frm_call h (hxt u)) (by rfl) (fun u => by go_simp) ?_
      try simp only [Act.put, List.setIfInBounds_toArray, List.set_cons_zero, List.set_cons_succ]
      (refine steady_add _ _ _ _ rfl (by rfl) (by rfl) ?_ (by rfl) ?_; (focus (simp only [List.length_append, List.length_cons, List.length_nil]; omega)); try simp only [Act.put, List.setIfInBounds_toArray, List.set_cons_zero, List.set_cons_succ])
      repeat (first
        | (refine steady_off (by rfl) ?_; try simp only [Act.put, List.setIfInBounds_toArray, List.set_cons_zero, List.set_cons_succ])
        | (refine steady_pure (v := ?_) (by rfl) ?_ ?_; rotate_left; (focus (intro u; go_simp; with_reducible rfl)); try simp only [Act.put, List.setIfInBounds_toArray, List.set_cons_zero, List.set_cons_succ]))
      refine steady_nil (fun w2 h2 => ?_)
      have HF2 := hid h2
      have c32 := h2.cellK 0 rfl HL.out
      clear h2
      cases C
      all_goals
        go_wp2_with (first
          | (go_at_call 73; refine (hlet _).mono ?_; rintro e w3 ⟨rfl, hw3⟩; have HF3 := hid (HF2.out.call (w' := w3) (by rw [hw3]; exact Below.refl _ _)); clear hw3)
          | (refine at_load 29 (by rfl) ?_; refine wpList_loadE rfl rfl (HF3.out.loadP 0 rfl HL.out) rfl ?_)
          | (go_at_call 70; refine (hpt _).mono ?_; rintro e w4 ⟨rfl, hb4⟩; have HF4 := hid (HF3.out.call hb4); clear hb4))
      · have q : k = 0 := by have := beqi_yes (a := k) (b := 0) (by assumption); exact this
        go_ret
        exact ⟨by rw [HO.out, if_pos q]; simp, HF2.out.bel⟩
      · have q : k ≠ 0 := beqi_no (by assumption)
        go_ret
        exact ⟨by rw [HO.out, if_neg q, if_neg (by simp)]; simp, HF4.out.bel⟩
      · have q : k = 0 := beqi_yes (by assumption)
        go_ret
        exact ⟨by rw [HO.out, if_pos q]; simp, HF2.out.bel⟩
      · have q : k ≠ 0 := beqi_no (by assumption)
        go_ret
        exact ⟨by rw [HO.out, if_neg q]; simp, HF3.out.bel⟩
end Go.Proofs.YtgfdmdikiickpaaGreatDoor
