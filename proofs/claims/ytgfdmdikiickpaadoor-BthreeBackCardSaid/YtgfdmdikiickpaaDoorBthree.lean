/-
  Walks of package b3: keep, letter, ids, may, sampled.
-/
import Derived.Test.YtgfdmdikiickpaaDoorFrm
import Derived.Test.YtgfdmdikiickpaaDoorChain
import Derived.Test.YtgfdmdikiickpaaDoorPB3
namespace Go.Proofs.YtgfdmdikiickpaaDoor
open Go.RowKit

theorem neq_no {a b : Int} (h : (a != b) = false) : a = b := by simpa using h
theorem neq_yes {a b : Int} (h : (a != b) = true) : a ≠ b := by simpa using h
theorem beq_no {a b : List UInt8} (h : a ≠ b) : (a == b) = false := by simpa using h
theorem beq_yes {a b : List UInt8} (h : a = b) : (a == b) = true := by simpa using h
set_option maxRecDepth 100000 in
set_option maxHeartbeats 1000000 in
theorem bkeep_any (s : List UInt8) (w : World) :
    Calls Tryd.prog 36 #[Sv s] w fun e w' => e = .returned (.tuple #[.int .i64 (keepS s), .bool (!(keepS s == 0))]) ∧ w' = w := by
  by_cases h1 : s = [48]
  · subst h1
    go_enter Tryd.func36, Tryd.ntmps36
    go_wp2_with fail
    go_ret2
    exact ⟨rfl, rfl⟩
  · by_cases h2 : s = [49]
    · subst h2
      go_enter Tryd.func36, Tryd.ntmps36
      go_wp2_with fail
      go_ret2
      exact ⟨rfl, rfl⟩
    · by_cases h3 : s = [100]
      · subst h3
        go_enter Tryd.func36, Tryd.ntmps36
        go_wp2_with fail
        go_ret2
        exact ⟨rfl, rfl⟩
      · have HK := hid (show keepS s = 0 by unfold keepS; rw [if_neg h1, if_neg h2, if_neg h3])
        have q1 := beq_no h1
        have q2 := beq_no h2
        have q3 := beq_no h3
        clear h1 h2 h3
        go_enter Tryd.func36, Tryd.ntmps36
        go_wp2_with fail
        go_ret2
        exact ⟨by rw [HK.out]; rfl, rfl⟩
set_option maxRecDepth 100000 in
set_option maxHeartbeats 1000000 in
theorem bletter_any (k : Int) (w : World) :
    Calls Tryd.prog 47 #[.int .i64 k] w fun e w' => e = .returned (Sv (letterS k)) ∧ w' = w := by
  by_cases h1 : k = 1
  · subst h1
    go_enter Tryd.func47, Tryd.ntmps47
    go_wp2_with fail
    go_ret
    exact ⟨rfl, rfl⟩
  · by_cases h2 : k = 2
    · subst h2
      go_enter Tryd.func47, Tryd.ntmps47
      go_wp2_with fail
      go_ret
      exact ⟨rfl, rfl⟩
    · by_cases h3 : k = 3
      · subst h3
        go_enter Tryd.func47, Tryd.ntmps47
        go_wp2_with fail
        go_ret
        exact ⟨rfl, rfl⟩
      · have HK := hid (letterS_zero (k := k) (by omega))
        go_enter Tryd.func47, Tryd.ntmps47
        go_wp2_with fail
        go_ret
        exact ⟨by rw [HK.out]; rfl, rfl⟩
def cxOut (r : Cx) : Value := .tuple #[Cv r.1 r.2.1 r.2.2.1 r.2.2.2.1, .int .i64 r.2.2.2.2]
theorem cxOut_bad (c : Int) : cxOut (cxBad c) = .tuple #[Cv (zb 16) (zb 8) (zb 8) 0, .int .i64 c] := rfl
theorem built_zctx : Tryd.prog.built 29 [] = some (cc (zb 16) (zb 8) (zb 8) 0).toArray := by kernel_rfl
theorem built_cnames (t x : List UInt8) (ht : t.length = 16) (hx : x.length = 8) : Tryd.prog.built 29 [(0, Av t), (1, Av x)] = some (cc t x (zb 8) 0).toArray := by
  obtain ⟨a0, a1, a2, a3, a4, a5, a6, a7, a8, a9, a10, a11, a12, a13, a14, a15, rfl⟩ := len16 ht
  obtain ⟨b0, b1, b2, b3, b4, b5, b6, b7, rfl⟩ := len8 hx
  kernel_rfl
set_option maxRecDepth 100000 in
set_option maxHeartbeats 2000000 in
theorem bids_any (a b : List UInt8) (w : World) (ha : a.length ≤ 140737488355328) (hb : b.length ≤ 140737488355328) :
    Calls Tryd.prog 42 #[Sv a, Sv b] w fun e w' => e = .returned (cxOut (idsR a b)) ∧ Below w.heap.size w w' := by
  have HLT := hid (traceT_length a)
  have HLX := hid (spanT_length b)
  have HF := hid ((Frm.start w).new0 29 rfl)
  have HR := hid (show cxOut (idsR a b) = if traceC a = 0 then (if spanC b = 0 then .tuple #[Cv (traceT a) (spanT b) (zb 8) 0, .int .i64 0] else .tuple #[Cv (zb 16) (zb 8) (zb 8) 0, .int .i64 (spanC b)]) else .tuple #[Cv (zb 16) (zb 8) (zb 8) 0, .int .i64 (traceC a)] by
    unfold idsR
    by_cases h1 : traceC a = 0
    · rw [if_pos h1, if_pos h1]
      by_cases h2 : spanC b = 0
      · rw [if_pos h2, if_pos h2]; rfl
      · rw [if_neg h2, if_neg h2]; rfl
    · rw [if_neg h1, if_neg h1]; rfl)
  go_enter Tryd.func42, Tryd.ntmps42
  go_wp2_with fail
  refine (readtrace_any a _ ha).mono ?_; rintro e w1 ⟨rfl, hb1⟩
  have HF1 := hid ((HF.out.call hb1).new 25 (b8s (zb 16)).toArray rfl)
  clear hb1
  generalize traceC a = ca at HR ⊢
  go_wp2_with (first
    | (refine at_store 25 (by rfl) ?_; refine wpList_put16 HF1.out 1 rfl rfl rfl (zb_length _) HLT.out rfl rfl ?_; intro w2 h2; have HF2 := hid h2; clear h2)
    | (refine at_store 29 (by rfl) ?_; refine wpList_putCv HF2.out 0 (t := zb 16) (x := zb 8) (p := zb 8) (k := 0) rfl rfl rfl okc_zero okc_zero rfl rfl ?_; intro w9 h9; have HF9 := hid h9; clear h9))
  · have q : ca ≠ 0 := neq_yes (by assumption)
    exact bodyPost_ret (results_cv2 rfl _ _ _ _ _ _ _ _ _ rfl (HF9.out.get 0 rfl) Tryd.underlying29 rfl info_ctx okc_zero) rfl ⟨by rw [HR.out, if_neg q]; rfl, HF9.out.bel⟩
  · have q : ca = 0 := neq_no (by assumption)
    refine (readspan_any b _ hb).mono ?_; rintro e w3 ⟨rfl, hb3⟩
    have HF3 := hid ((HF2.out.call hb3).new 27 (b8s (zb 8)).toArray rfl)
    clear hb3
    generalize spanC b = cb at HR ⊢
    go_wp2_with (first
      | (refine at_store 27 (by rfl) ?_; refine wpList_put8 HF3.out 2 rfl rfl rfl (zb_length _) HLX.out rfl rfl ?_; intro w4 h4; have HF4 := hid h4; clear h4)
      | (refine at_store 29 (by rfl) ?_; refine wpList_putCv HF4.out 0 (t := zb 16) (x := zb 8) (p := zb 8) (k := 0) rfl rfl rfl okc_zero okc_zero rfl rfl ?_; intro w9 h9; have HF9 := hid h9; clear h9)
      | (refine at_load 25 (by rfl) ?_; refine wpList_loadE rfl rfl (HF4.out.load16 1 rfl HLT.out) rfl ?_)
      | (refine at_load 27 (by rfl) ?_; refine wpList_loadE rfl rfl (HF4.out.load8 2 rfl HLX.out) rfl ?_)
      | (refine wpList_build2 rfl 29 0 1 _ _ rfl (Av (traceT a)) (Av (spanT b)) _ rfl rfl (built_cnames _ _ HLT.out HLX.out) ?_; change wpList _ _ _ _ (Act.put _ _ (Cv (traceT a) (spanT b) (zb 8) 0)) _)
      | (refine at_store 29 (by rfl) ?_; refine wpList_putCv HF4.out 0 rfl rfl rfl okc_zero ⟨HLT.out, HLX.out, zb_length _⟩ rfl rfl ?_; intro w9 h9; have HF9 := hid h9; clear h9))
    · have q2 : cb ≠ 0 := neq_yes (by assumption)
      exact bodyPost_ret (results_cv2 rfl _ _ _ _ _ _ _ _ _ rfl (HF9.out.get 0 rfl) Tryd.underlying29 rfl info_ctx okc_zero) rfl ⟨by rw [HR.out, if_pos q, if_neg q2]; rfl, HF9.out.bel⟩
    · have q2 : cb = 0 := neq_no (by assumption)
      exact bodyPost_ret (results_cv2 rfl _ _ _ _ _ _ _ _ _ rfl (HF9.out.get 0 rfl) Tryd.underlying29 rfl info_ctx ⟨HLT.out, HLX.out, zb_length _⟩) rfl ⟨by rw [HR.out, if_pos q, if_pos q2, q2]; rfl, HF9.out.bel⟩
end Go.Proofs.YtgfdmdikiickpaaDoor
