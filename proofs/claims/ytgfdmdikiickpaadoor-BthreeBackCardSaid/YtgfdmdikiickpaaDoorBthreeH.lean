/-
  Walks of package b3: ReadMulti, where names are there.
-/
import Derived.Test.YtgfdmdikiickpaaDoorBthreeG
namespace Go.Proofs.YtgfdmdikiickpaaDoor
open Go.RowKit

set_option maxRecDepth 100000 in
set_option maxHeartbeats 4000000 in
theorem breadmulti_both (tr sp pa sa fl : List UInt8) (w : World) (h1 : tr ≠ []) (h2 : sp ≠ []) (s1 : tr.length ≤ 140737488355328) (s2 : sp.length ≤ 140737488355328) (s3 : pa.length ≤ 140737488355328) :
    Calls Tryd.prog 11 #[Mv (tr, sp, pa, sa, fl)] w fun e w' => e = .returned (cxOut (multiR (tr, sp, pa, sa, fl))) ∧ Below w.heap.size w w' := by
  have hsamp := fun u => bsampled_any (tr, sp, pa, sa, fl) u
  have hids := fun u => bids_any tr sp u s1 s2
  have hspan := fun u => readspan_any pa u s3
  have HO := hid (show multiR (tr, sp, pa, sa, fl) = sampledR (withinR (idsR tr sp) pa) (sampR sa fl) by
    unfold multiR
    rw [if_neg (by unfold halfM; simp [h1, h2])]
    show sampledR (withinR (if tr = [] then cxBad 0 else idsR tr sp) pa) _ = _
    rw [if_neg h1])
  have HB := hid (fun h => idsR_bad (a := tr) (b := sp) h)
  have HOK := lenOk_ids tr sp
  generalize idsR tr sp = r at hids HO HB HOK
  obtain ⟨it, ix, ip, ik, ic⟩ := r
  have HI : Hid (Okc it ix ip) := HOK
  have HLP := hid (spanT_length pa)
  clear HOK
  unfold cxOut at hids
  simp only at hids HB
  have HC := sampR_code sa fl
  simp only at hsamp
  have HQ := hid (show sampR sa fl = ((sampR sa fl).1, (sampR sa fl).2) from rfl)
  generalize (sampR sa fl).1 = k at HQ hsamp
  generalize (sampR sa fl).2 = c at HQ hsamp HC
  rw [HQ.out] at HO
  clear HQ
  obtain ⟨W1, hW⟩ : ∃ W1, (w.alloc (.cells #[Sv tr, Sv sp, Sv pa, Sv sa, Sv fl] 34)).alloc (.cells #[.int .u8 0, .int .u8 0, .int .u8 0, .int .u8 0, .int .u8 0, .int .u8 0, .int .u8 0, .int .u8 0, .int .u8 0, .int .u8 0, .int .u8 0, .int .u8 0, .int .u8 0, .int .u8 0, .int .u8 0, .int .u8 0, .int .u8 0, .int .u8 0, .int .u8 0, .int .u8 0, .int .u8 0, .int .u8 0, .int .u8 0, .int .u8 0, .int .u8 0, .int .u8 0, .int .u8 0, .int .u8 0, .int .u8 0, .int .u8 0, .int .u8 0, .int .u8 0, .int .i64 0] 29) = W1 := ⟨_, rfl⟩
  have hF : Frm w W1 [(w.heap.size, 34, mc (tr, sp, pa, sa, fl)), (w.heap.size + 1, 29, (cc (zb 16) (zb 8) (zb 8) 0).toArray)] := hW ▸ ((Frm.start w).new 34 #[Sv tr, Sv sp, Sv pa, Sv sa, Sv fl] rfl).new0 29 (n := w.heap.size + 1) (by simp)
  obtain ⟨m0, m1, m2, m3, m4⟩ := hF.mcells 0 rfl
  simp only at m0 m1 m2 m3 m4
  obtain ⟨W2, hW2⟩ : ∃ W2, W1.alloc (.cells #[.int .u8 0, .int .u8 0, .int .u8 0, .int .u8 0, .int .u8 0, .int .u8 0, .int .u8 0, .int .u8 0, .int .u8 0, .int .u8 0, .int .u8 0, .int .u8 0, .int .u8 0, .int .u8 0, .int .u8 0, .int .u8 0, .int .u8 0, .int .u8 0, .int .u8 0, .int .u8 0, .int .u8 0, .int .u8 0, .int .u8 0, .int .u8 0, .int .u8 0, .int .u8 0, .int .u8 0, .int .u8 0, .int .u8 0, .int .u8 0, .int .u8 0, .int .u8 0, .int .i64 0] 29) = W2 := ⟨_, rfl⟩
  have hF2 : Frm w W2 [(w.heap.size, 34, mc (tr, sp, pa, sa, fl)), (w.heap.size + 1, 29, (cc (zb 16) (zb 8) (zb 8) 0).toArray), (W1.heap.size, 29, (cc (zb 16) (zb 8) (zb 8) 0).toArray)] := hW2 ▸ hF.new0 29 rfl
  obtain ⟨n0, n1, n2, n3, n4⟩ := hF2.mcells 0 rfl
  simp only at n0 n1 n2 n3 n4
  have HF := hid hF2
  have HW := hid hW
  have HW2 := hid hW2
  clear hF hW hF2 hW2
  have e1 := iE h1
  have e2 := iE h2
  clear h1 h2
  unfold Mv
  simp only
  by_cases h3 : pa = []
  · subst h3
    go_enter Tryd.func11, Tryd.ntmps11
    go_upto_region 1 with fail
    rw [HW.out]
    go_upto_region 5 with fail
    rw [HW2.out]
    clear HW HW2 m0 m1 m2 m3 m4
    generalize W1.heap.size = G at HF ⊢
    have HO := hid (show multiR (tr, sp, [], sa, fl) = sampledR (it, ix, ip, ik, ic) (k, c) from HO.out)
    go_wp2_with (first
      | (go_at_call 42; refine (hids _).mono ?_; rintro e w3 ⟨rfl, hb3⟩; have HF3 := hid (HF.out.call hb3); clear hb3)
      | (refine wpList_putCv HF3.out 2 rfl rfl rfl okc_zero HI.out rfl rfl ?_; intro w4 h4; have HF4 := hid h4; obtain ⟨p0, p1, p2, p3, p4⟩ := h4.mcells 0 rfl; simp only at p0 p1 p2 p3 p4; clear h4)
      | (refine wpList_loadE rfl rfl (HF4.out.loadMv 0 rfl) rfl ?_)
      | (go_at_call 44; refine (hsamp _).mono ?_; rintro e w5 ⟨rfl, hb5⟩; have HF5 := hid (HF4.out.call hb5); clear hb5)
      | (refine wpList_putK HF5.out 2 rfl rfl rfl HI.out rfl rfl ?_; intro w6 h6; have HF6 := hid h6; clear h6)
      | (refine wpList_putCv HF6.out 1 (t := zb 16) (x := zb 8) (p := zb 8) (k := 0) rfl rfl rfl okc_zero okc_zero rfl rfl ?_; intro w9 h9; have HF9 := hid h9; clear h9)
      | (refine wpList_putCv HF4.out 1 (t := zb 16) (x := zb 8) (p := zb 8) (k := 0) rfl rfl rfl okc_zero okc_zero rfl rfl ?_; intro w9 h9; have HF9 := hid h9; clear h9)
      | (refine wpList_loadE rfl rfl (HF6.out.loadCv 2 rfl HI.out) rfl ?_)
      | (refine wpList_putCv HF6.out 1 rfl rfl rfl okc_zero HI.out rfl rfl ?_; intro w9 h9; have HF9 := hid h9; clear h9))
    · have q : ic = 0 := by first | assumption | exact beqi_yes (by assumption) | exact neq_no (by assumption) | omega
      have qc : c ≠ 0 := neq_yes (by assumption)
      have q3 : c = 3 := HC.resolve_left qc
      exact bodyPost_ret (results_cv2 rfl _ _ _ _ _ _ _ _ _ rfl (HF9.out.get 1 rfl) Tryd.underlying29 rfl info_ctx okc_zero) rfl ⟨by rw [HO.out]; unfold sampledR; rw [if_pos q, if_neg qc, q3]; rfl, HF9.out.bel⟩
    · have q : ic = 0 := by first | assumption | exact beqi_yes (by assumption) | exact neq_no (by assumption) | omega
      have qc : c = 0 := neq_no (by assumption)
      exact bodyPost_ret (results_cv2 rfl _ _ _ _ _ _ _ _ _ rfl (HF9.out.get 1 rfl) Tryd.underlying29 rfl info_ctx HI.out) rfl ⟨by rw [HO.out]; unfold sampledR; rw [if_pos q, if_pos qc]; rfl, HF9.out.bel⟩
    · have q : ic ≠ 0 := neq_yes (by assumption)
      exact bodyPost_ret (results_cv2 rfl _ _ _ _ _ _ _ _ _ rfl (HF9.out.get 1 rfl) Tryd.underlying29 rfl info_ctx okc_zero) rfl ⟨by rw [HO.out, HB.out q]; unfold sampledR; rw [if_neg (show (cxBad ic).2.2.2.2 ≠ 0 from q)]; rfl, HF9.out.bel⟩
  · have HO := hid (show multiR (tr, sp, pa, sa, fl) = sampledR (parR (it, ix, ip, ik, ic) pa) (k, c) by rw [HO.out]; unfold withinR; rw [if_neg h3])
    have e3 := iE h3
    generalize hd : spanC pa = dc at hspan
    have HD := hid hd
    clear h3 hd
    go_enter Tryd.func11, Tryd.ntmps11
    go_upto_region 1 with fail
    rw [HW.out]
    go_upto_region 5 with fail
    rw [HW2.out]
    clear HW HW2 m0 m1 m2 m3 m4
    generalize W1.heap.size = G at HF ⊢
    go_wp2_with (first
      | (go_at_call 42; refine (hids _).mono ?_; rintro e w3 ⟨rfl, hb3⟩; have HF3 := hid (HF.out.call hb3); clear hb3)
      | (refine wpList_putCv HF3.out 2 rfl rfl rfl okc_zero HI.out rfl rfl ?_; intro w4 h4; have HF4 := hid h4; obtain ⟨p0, p1, p2, p3, p4⟩ := h4.mcells 0 rfl; simp only at p0 p1 p2 p3 p4; clear h4)
      | (go_at_call 43; refine (hspan _).mono ?_; rintro e w7 ⟨rfl, hb7⟩; have HF7 := hid (HF4.out.call hb7); clear hb7)
      | (refine wpList_putP HF7.out 2 rfl rfl rfl HI.out HLP.out rfl rfl ?_; intro w8 h8; have HF8 := hid h8; obtain ⟨r0, r1, r2, r3, r4⟩ := h8.mcells 0 rfl; simp only at r0 r1 r2 r3 r4; clear h8)
      | (refine wpList_loadE rfl rfl (HF8.out.loadMv 0 rfl) rfl ?_)
      | (go_at_call 44; refine (hsamp _).mono ?_; rintro e w5 ⟨rfl, hb5⟩; have HF5 := hid (HF8.out.call hb5); clear hb5)
      | (refine wpList_putK HF5.out 2 rfl rfl rfl ⟨HI.out.1, HI.out.2.1, HLP.out⟩ rfl rfl ?_; intro w6 h6; have HF6 := hid h6; clear h6)
      | (refine wpList_putCv HF6.out 1 (t := zb 16) (x := zb 8) (p := zb 8) (k := 0) rfl rfl rfl okc_zero okc_zero rfl rfl ?_; intro w9 h9; have HF9 := hid h9; clear h9)
      | (refine wpList_putCv HF8.out 1 (t := zb 16) (x := zb 8) (p := zb 8) (k := 0) rfl rfl rfl okc_zero okc_zero rfl rfl ?_; intro w9 h9; have HF9 := hid h9; clear h9)
      | (refine wpList_putCv HF4.out 1 (t := zb 16) (x := zb 8) (p := zb 8) (k := 0) rfl rfl rfl okc_zero okc_zero rfl rfl ?_; intro w9 h9; have HF9 := hid h9; clear h9)
      | (refine wpList_loadE rfl rfl (HF6.out.loadCv 2 rfl ⟨HI.out.1, HI.out.2.1, HLP.out⟩) rfl ?_)
      | (refine wpList_putCv HF6.out 1 rfl rfl rfl okc_zero ⟨HI.out.1, HI.out.2.1, HLP.out⟩ rfl rfl ?_; intro w9 h9; have HF9 := hid h9; clear h9))
    · have q : ic = 0 := by first | assumption | exact beqi_yes (by assumption) | exact neq_no (by assumption) | omega
      have qd : dc = 0 := by first | assumption | exact beqi_yes (by assumption) | exact neq_no (by assumption) | omega
      have qc : c ≠ 0 := neq_yes (by assumption)
      have q3 : c = 3 := HC.resolve_left qc
      exact bodyPost_ret (results_cv2 rfl _ _ _ _ _ _ _ _ _ rfl (HF9.out.get 1 rfl) Tryd.underlying29 rfl info_ctx okc_zero) rfl ⟨by rw [HO.out]; unfold parR; rw [if_pos q, HD.out, if_pos qd]; unfold sampledR; rw [if_pos rfl, if_neg qc, q3]; rfl, HF9.out.bel⟩
    · have q : ic = 0 := by first | assumption | exact beqi_yes (by assumption) | exact neq_no (by assumption) | omega
      have qd : dc = 0 := by first | assumption | exact beqi_yes (by assumption) | exact neq_no (by assumption) | omega
      have qc : c = 0 := neq_no (by assumption)
      exact bodyPost_ret (results_cv2 rfl _ _ _ _ _ _ _ _ _ rfl (HF9.out.get 1 rfl) Tryd.underlying29 rfl info_ctx ⟨HI.out.1, HI.out.2.1, HLP.out⟩) rfl ⟨by rw [HO.out]; unfold parR; rw [if_pos q, HD.out, if_pos qd]; unfold sampledR; rw [if_pos rfl, if_pos qc]; rfl, HF9.out.bel⟩
    · have q : ic = 0 := by first | assumption | exact beqi_yes (by assumption) | exact neq_no (by assumption) | omega
      have qd : dc ≠ 0 := neq_yes (by assumption)
      exact bodyPost_ret (results_cv2 rfl _ _ _ _ _ _ _ _ _ rfl (HF9.out.get 1 rfl) Tryd.underlying29 rfl info_ctx okc_zero) rfl ⟨by rw [HO.out]; unfold parR; rw [if_pos q, HD.out, if_neg qd]; unfold sampledR; rw [if_neg (show (cxBad dc).2.2.2.2 ≠ 0 from qd)]; rfl, HF9.out.bel⟩
    · have q : ic ≠ 0 := neq_yes (by assumption)
      exact bodyPost_ret (results_cv2 rfl _ _ _ _ _ _ _ _ _ rfl (HF9.out.get 1 rfl) Tryd.underlying29 rfl info_ctx okc_zero) rfl ⟨by rw [HO.out]; unfold parR; rw [if_neg q, HB.out q]; unfold sampledR; rw [if_neg (show (cxBad ic).2.2.2.2 ≠ 0 from q)]; rfl, HF9.out.bel⟩
theorem breadmulti_any (m : Mu) (w : World) (hm : shortM m) :
    Calls Tryd.prog 11 #[Mv m] w fun e w' => e = .returned (cxOut (multiR m)) ∧ Below w.heap.size w w' := by
  by_cases hh : halfM m
  · exact breadmulti_half m w hh
  · obtain ⟨tr, sp, pa, sa, fl⟩ := m
    by_cases h1 : tr = []
    · have : tr = [] ∧ sp = [] ∧ pa = [] := Classical.byContradiction fun q => hh ⟨.inl h1, q⟩
      obtain ⟨rfl, rfl, rfl⟩ := this
      exact breadmulti_none sa fl w
    · have h2 : sp ≠ [] := fun q => hh ⟨.inr q, fun r => h1 r.1⟩
      exact breadmulti_both tr sp pa sa fl w h1 h2 hm.1 hm.2.1 hm.2.2
end Go.Proofs.YtgfdmdikiickpaaDoor
