/-
  Texts for the laws of this seat, merged: BthreeH, BthreeI.
-/
import Derived.Test.YtgfdmdikiickpaaGreatDoorMI
/-! BthreeH -/
namespace Go.Proofs.YtgfdmdikiickpaaGreatDoor
open Go.RowKit

set_option maxRecDepth 100000 in
set_option maxHeartbeats 4000000 in
theorem breadmulti_both (tr sp pa sa fl : List UInt8) (w : World) (h1 : tr ≠ []) (h2 : sp ≠ []) (s1 : tr.length ≤ 140737488355328) (s2 : sp.length ≤ 140737488355328) (s3 : pa.length ≤ 140737488355328) :
    Calls Tryz.prog 55 #[Mv (tr, sp, pa, sa, fl)] w fun e w' => e = .returned (cxOut (multiR (tr, sp, pa, sa, fl))) ∧ Below w.heap.size w w' := by
  have hsamp := fun u => bsampled_any (tr, sp, pa, sa, fl) u
  have hids := fun u => bids_any tr sp u s1 s2
  have hspan := fun u => readspan_any pa u s3
  have HO := hid (show multiR (tr, sp, pa, sa, fl) = sampledR (withinR (idsR tr sp) pa) (sampR sa fl) by
    unfold multiR
    rw [if_neg (by unfold halfM; simp [h1, h2])]
    show sampledR (withinR (if tr = [] then cxBad 0 else idsR tr sp) pa) _ = _
    rw [if_neg h1])
  have HB := hid (fun h => idsR_bad (a := tr) (b := sp) h)
  have HOK := lenOk_ids tr sp
  generalize idsR tr sp = r at hids HO HB HOK
  obtain ⟨it, ix, ip, ik, ic⟩ := r
  have HI : Hid (Okc it ix ip) := HOK
  have HLP := hid (spanT_length pa)
  clear HOK
  unfold cxOut at hids
  simp only at hids HB
  have HC := sampR_code sa fl
  simp only at hsamp
  have HQ := hid (show sampR sa fl = ((sampR sa fl).1, (sampR sa fl).2) from rfl)
  generalize (sampR sa fl).1 = k at HQ hsamp
  generalize (sampR sa fl).2 = c at HQ hsamp HC
  rw [HQ.out] at HO
  clear HQ
  obtain ⟨W1, hW⟩ : ∃ W1, (w.alloc (.cells #[Sv tr, Sv sp, Sv pa, Sv sa, Sv fl] 89)).alloc (.cells #[.int .u8 0, .int .u8 0, .int .u8 0, .int .u8 0, .int .u8 0, .int .u8 0, .int .u8 0, .int .u8 0, .int .u8 0, .int .u8 0, .int .u8 0, .int .u8 0, .int .u8 0, .int .u8 0, .int .u8 0, .int .u8 0, .int .u8 0, .int .u8 0, .int .u8 0, .int .u8 0, .int .u8 0, .int .u8 0, .int .u8 0, .int .u8 0, .int .u8 0, .int .u8 0, .int .u8 0, .int .u8 0, .int .u8 0, .int .u8 0, .int .u8 0, .int .u8 0, .int .i64 0] 31) = W1 := ⟨_, rfl⟩
  have hF : Frm w W1 [(w.heap.size, 89, mc (tr, sp, pa, sa, fl)), (w.heap.size + 1, 31, (cc (zb 16) (zb 8) (zb 8) 0).toArray)] := hW ▸ ((Frm.start w).new 89 #[Sv tr, Sv sp, Sv pa, Sv sa, Sv fl] rfl).new0 31 (n := w.heap.size + 1) (by simp)
  obtain ⟨m0, m1, m2, m3, m4⟩ := hF.mcells 0 rfl
  simp only at m0 m1 m2 m3 m4
  obtain ⟨W2, hW2⟩ : ∃ W2, W1.alloc (.cells #[.int .u8 0, .int .u8 0, .int .u8 0, .int .u8 0, .int .u8 0, .int .u8 0, .int .u8 0, .int .u8 0, .int .u8 0, .int .u8 0, .int .u8 0, .int .u8 0, .int .u8 0, .int .u8 0, .int .u8 0, .int .u8 0, .int .u8 0, .int .u8 0, .int .u8 0, .int .u8 0, .int .u8 0, .int .u8 0, .int .u8 0, .int .u8 0, .int .u8 0, .int .u8 0, .int .u8 0, .int .u8 0, .int .u8 0, .int .u8 0, .int .u8 0, .int .u8 0, .int .i64 0] 31) = W2 := ⟨_, rfl⟩
  have hF2 : Frm w W2 [(w.heap.size, 89, mc (tr, sp, pa, sa, fl)), (w.heap.size + 1, 31, (cc (zb 16) (zb 8) (zb 8) 0).toArray), (W1.heap.size, 31, (cc (zb 16) (zb 8) (zb 8) 0).toArray)] := hW2 ▸ hF.new0 31 rfl
  obtain ⟨n0, n1, n2, n3, n4⟩ := hF2.mcells 0 rfl
  simp only at n0 n1 n2 n3 n4
  have HF := hid hF2
  have HW := hid hW
  have HW2 := hid hW2
  clear hF hW hF2 hW2
  have e1 := iE h1
  have e2 := iE h2
  clear h1 h2
  unfold Mv
  simp only
  by_cases h3 : pa = []
  · subst h3
    go_enter Tryz.func55, Tryz.ntmps55
    go_upto_region 1 with fail
    rw [HW.out]
    go_upto_region 5 with fail
    rw [HW2.out]
    clear HW HW2 m0 m1 m2 m3 m4
    generalize W1.heap.size = G at HF ⊢
    have HO := hid (show multiR (tr, sp, [], sa, fl) = sampledR (it, ix, ip, ik, ic) (k, c) from HO.out)
    go_wp2_with (first
      | (go_at_call 84; refine (hids _).mono ?_; rintro e w3 ⟨rfl, hb3⟩; have HF3 := hid (HF.out.call hb3); clear hb3)
      | (refine at_store 31 (by rfl) ?_; refine wpList_putCv HF3.out 2 rfl rfl rfl okc_zero HI.out rfl rfl ?_; intro w4 h4; have HF4 := hid h4; obtain ⟨p0, p1, p2, p3, p4⟩ := h4.mcells 0 rfl; simp only at p0 p1 p2 p3 p4; clear h4)
      | (refine at_load 89 (by rfl) ?_; refine wpList_loadE rfl rfl (HF4.out.loadMv 0 rfl) rfl ?_)
      | (go_at_call 86; refine (hsamp _).mono ?_; rintro e w5 ⟨rfl, hb5⟩; have HF5 := hid (HF4.out.call hb5); clear hb5)
      | (refine at_store 3 (by rfl) ?_; refine wpList_putK HF5.out 2 rfl rfl rfl HI.out rfl rfl ?_; intro w6 h6; have HF6 := hid h6; clear h6)
      | (refine at_store 31 (by rfl) ?_; refine wpList_putCv HF6.out 1 (t := zb 16) (x := zb 8) (p := zb 8) (k := 0) rfl rfl rfl okc_zero okc_zero rfl rfl ?_; intro w9 h9; have HF9 := hid h9; clear h9)
      | (refine at_store 31 (by rfl) ?_; refine wpList_putCv HF4.out 1 (t := zb 16) (x := zb 8) (p := zb 8) (k := 0) rfl rfl rfl okc_zero okc_zero rfl rfl ?_; intro w9 h9; have HF9 := hid h9; clear h9)
      | (refine at_load 31 (by rfl) ?_; refine wpList_loadE rfl rfl (HF6.out.loadCv 2 rfl HI.out) rfl ?_)
      | (refine at_store 31 (by rfl) ?_; refine wpList_putCv HF6.out 1 rfl rfl rfl okc_zero HI.out rfl rfl ?_; intro w9 h9; have HF9 := hid h9; clear h9))
    · have q : ic = 0 := by first | assumption | exact beqi_yes (by assumption) | exact neq_no (by assumption) | omega
      have qc : c ≠ 0 := neq_yes (by assumption)
      have q3 : c = 3 := HC.resolve_left qc
      exact bodyPost_ret (results_cv2 rfl _ _ _ _ _ _ _ _ _ rfl (HF9.out.get 1 rfl) Tryz.underlying31 rfl info_ctx okc_zero) rfl ⟨by rw [HO.out]; unfold sampledR; rw [if_pos q, if_neg qc, q3]; rfl, HF9.out.bel⟩
    · have q : ic = 0 := by first | assumption | exact beqi_yes (by assumption) | exact neq_no (by assumption) | omega
      have qc : c = 0 := neq_no (by assumption)
      exact bodyPost_ret (results_cv2 rfl _ _ _ _ _ _ _ _ _ rfl (HF9.out.get 1 rfl) Tryz.underlying31 rfl info_ctx HI.out) rfl ⟨by rw [HO.out]; unfold sampledR; rw [if_pos q, if_pos qc]; rfl, HF9.out.bel⟩
    · have q : ic ≠ 0 := neq_yes (by assumption)
      exact bodyPost_ret (results_cv2 rfl _ _ _ _ _ _ _ _ _ rfl (HF9.out.get 1 rfl) Tryz.underlying31 rfl info_ctx okc_zero) rfl ⟨by rw [HO.out, HB.out q]; unfold sampledR; rw [if_neg (show (cxBad ic).2.2.2.2 ≠ 0 from q)]; rfl, HF9.out.bel⟩
  · have HO := hid (show multiR (tr, sp, pa, sa, fl) = sampledR (parR (it, ix, ip, ik, ic) pa) (k, c) by rw [HO.out]; unfold withinR; rw [if_neg h3])
    have e3 := iE h3
    generalize hd : spanC pa = dc at hspan
    have HD := hid hd
    clear h3 hd
    go_enter Tryz.func55, Tryz.ntmps55
    go_upto_region 1 with fail
    rw [HW.out]
    go_upto_region 5 with fail
    rw [HW2.out]
    clear HW HW2 m0 m1 m2 m3 m4
    generalize W1.heap.size = G at HF ⊢
    go_wp2_with (first
      | (go_at_call 84; refine (hids _).mono ?_; rintro e w3 ⟨rfl, hb3⟩; have HF3 := hid (HF.out.call hb3); clear hb3)
      | (refine at_store 31 (by rfl) ?_; refine wpList_putCv HF3.out 2 rfl rfl rfl okc_zero HI.out rfl rfl ?_; intro w4 h4; have HF4 := hid h4; obtain ⟨p0, p1, p2, p3, p4⟩ := h4.mcells 0 rfl; simp only at p0 p1 p2 p3 p4; clear h4)
      | (go_at_call 85; refine (hspan _).mono ?_; rintro e w7 ⟨rfl, hb7⟩; have HF7 := hid (HF4.out.call hb7); clear hb7)
      | (refine at_store 29 (by rfl) ?_; refine wpList_putP HF7.out 2 rfl rfl rfl HI.out HLP.out rfl rfl ?_; intro w8 h8; have HF8 := hid h8; obtain ⟨r0, r1, r2, r3, r4⟩ := h8.mcells 0 rfl; simp only at r0 r1 r2 r3 r4; clear h8)
      | (refine at_load 89 (by rfl) ?_; refine wpList_loadE rfl rfl (HF8.out.loadMv 0 rfl) rfl ?_)
      | (go_at_call 86; refine (hsamp _).mono ?_; rintro e w5 ⟨rfl, hb5⟩; have HF5 := hid (HF8.out.call hb5); clear hb5)
      | (refine at_store 3 (by rfl) ?_; refine wpList_putK HF5.out 2 rfl rfl rfl ⟨HI.out.1, HI.out.2.1, HLP.out⟩ rfl rfl ?_; intro w6 h6; have HF6 := hid h6; clear h6)
      | (refine at_store 31 (by rfl) ?_; refine wpList_putCv HF6.out 1 (t := zb 16) (x := zb 8) (p := zb 8) (k := 0) rfl rfl rfl okc_zero okc_zero rfl rfl ?_; intro w9 h9; have HF9 := hid h9; clear h9)
      | (refine at_store 31 (by rfl) ?_; refine wpList_putCv HF8.out 1 (t := zb 16) (x := zb 8) (p := zb 8) (k := 0) rfl rfl rfl okc_zero okc_zero rfl rfl ?_; intro w9 h9; have HF9 := hid h9; clear h9)
      | (refine at_store 31 (by rfl) ?_; refine wpList_putCv HF4.out 1 (t := zb 16) (x := zb 8) (p := zb 8) (k := 0) rfl rfl rfl okc_zero okc_zero rfl rfl ?_; intro w9 h9; have HF9 := hid h9; clear h9)
      | (refine at_load 31 (by rfl) ?_; refine wpList_loadE rfl rfl (HF6.out.loadCv 2 rfl ⟨HI.out.1, HI.out.2.1, HLP.out⟩) rfl ?_)
      | (refine at_store 31 (by rfl) ?_; refine wpList_putCv HF6.out 1 rfl rfl rfl okc_zero ⟨HI.out.1, HI.out.2.1, HLP.out⟩ rfl rfl ?_; intro w9 h9; have HF9 := hid h9; clear h9))
    · have q : ic = 0 := by first | assumption | exact beqi_yes (by assumption) | exact neq_no (by assumption) | omega
      have qd : dc = 0 := by first | assumption | exact beqi_yes (by assumption) | exact neq_no (by assumption) | omega
      have qc : c ≠ 0 := neq_yes (by assumption)
      have q3 : c = 3 := HC.resolve_left qc
      exact bodyPost_ret (results_cv2 rfl _ _ _ _ _ _ _ _ _ rfl (HF9.out.get 1 rfl) Tryz.underlying31 rfl info_ctx okc_zero) rfl ⟨by rw [HO.out]; unfold parR; rw [if_pos q, HD.out, if_pos qd]; unfold sampledR; rw [if_pos rfl, if_neg qc, q3]; rfl, HF9.out.bel⟩
    · have q : ic = 0 := by first | assumption | exact beqi_yes (by assumption) | exact neq_no (by assumption) | omega
      have qd : dc = 0 := by first | assumption | exact beqi_yes (by assumption) | exact neq_no (by assumption) | omega
      have qc : c = 0 := neq_no (by assumption)
      exact bodyPost_ret (results_cv2 rfl _ _ _ _ _ _ _ _ _ rfl (HF9.out.get 1 rfl) Tryz.underlying31 rfl info_ctx ⟨HI.out.1, HI.out.2.1, HLP.out⟩) rfl ⟨by rw [HO.out]; unfold parR; rw [if_pos q, HD.out, if_pos qd]; unfold sampledR; rw [if_pos rfl, if_pos qc]; rfl, HF9.out.bel⟩
    · have q : ic = 0 := by first | assumption | exact beqi_yes (by assumption) | exact neq_no (by assumption) | omega
      have qd : dc ≠ 0 := neq_yes (by assumption)
      exact bodyPost_ret (results_cv2 rfl _ _ _ _ _ _ _ _ _ rfl (HF9.out.get 1 rfl) Tryz.underlying31 rfl info_ctx okc_zero) rfl ⟨by rw [HO.out]; unfold parR; rw [if_pos q, HD.out, if_neg qd]; unfold sampledR; rw [if_neg (show (cxBad dc).2.2.2.2 ≠ 0 from qd)]; rfl, HF9.out.bel⟩
    · have q : ic ≠ 0 := neq_yes (by assumption)
      exact bodyPost_ret (results_cv2 rfl _ _ _ _ _ _ _ _ _ rfl (HF9.out.get 1 rfl) Tryz.underlying31 rfl info_ctx okc_zero) rfl ⟨by rw [HO.out]; unfold parR; rw [if_neg q, HB.out q]; unfold sampledR; rw [if_neg (show (cxBad ic).2.2.2.2 ≠ 0 from q)]; rfl, HF9.out.bel⟩
theorem breadmulti_any (m : Mu) (w : World) (hm : shortM m) :
    Calls Tryz.prog 55 #[Mv m] w fun e w' => e = .returned (cxOut (multiR m)) ∧ Below w.heap.size w w' := by
  by_cases hh : halfM m
  · exact breadmulti_half m w hh
  · obtain ⟨tr, sp, pa, sa, fl⟩ := m
    by_cases h1 : tr = []
    · have : tr = [] ∧ sp = [] ∧ pa = [] := Classical.byContradiction fun q => hh ⟨.inl h1, q⟩
      obtain ⟨rfl, rfl, rfl⟩ := this
      exact breadmulti_none sa fl w
    · have h2 : sp ≠ [] := fun q => hh ⟨.inr q, fun r => h1 r.1⟩
      exact breadmulti_both tr sp pa sa fl w h1 h2 hm.1 hm.2.1 hm.2.2
end Go.Proofs.YtgfdmdikiickpaaGreatDoor

/-! BthreeI -/
namespace Go.Proofs.YtgfdmdikiickpaaGreatDoor
open Go.RowKit

theorem wpList_putM {ops : Array Oper} {rest : List Oper} {o : Oper} {a : Act} {w w0 : World} {Q : Exit → Act → World → Prop} {L : List Bk} (h : Frm w0 w L) (i : Nat) (m m' : Mu) {g : Nat} {T : TypeId} {y z : Operand} (hgd : o.guard = none) (ho : o.op = .store 89 y z)
    (hi : L[i]? = some (g, T, mc m)) (hx : a.eval y = .pointer (some ⟨g, 0, none⟩)) (hy : a.eval z = Mv m')
    (hn : ∀ w', Frm w0 w' (L.set i (g, T, mc m')) → wpList Tryz.prog ops Q rest (a.put o.dst undef) w') : wpList Tryz.prog ops Q (o :: rest) a w :=
  wpList_store_row hgd _ y z ho g _ hx hy T _ (h.get i hi) (by rw [info_mul]; rfl) rfl (by simp [Sv, Value.oneCell']) (hn _ (h.setRow i hi _))
theorem wpList_putMs {ops : Array Oper} {rest : List Oper} {o : Oper} {a : Act} {w w0 : World} {Q : Exit → Act → World → Prop} {L : List Bk} (h : Frm w0 w L) (i : Nat) (m m' : Mu) (k : Nat) {g : Nat} {T : TypeId} {s : List UInt8} {y z : Operand} (hgd : o.guard = none) (ho : o.op = .store 9 y z)
    (hi : L[i]? = some (g, T, mc m)) (hx : a.eval y = .pointer (some ⟨g, k, none⟩)) (hy : a.eval z = Sv s) (hk : k < 5) (he : (mc m).setIfInBounds k (Sv s) = mc m')
    (hn : ∀ w', Frm w0 w' (L.set i (g, T, mc m')) → wpList Tryz.prog ops Q rest (a.put o.dst undef) w') : wpList Tryz.prog ops Q (o :: rest) a w :=
  wpList_putC h i hgd ho hi hx hy hk rfl rfl info_str (fun w' hw => hn w' (by rw [← he]; exact hw))
theorem results_mv1 {fn : Func} {p : Tmp} (h : fn.results = #[.cell p 89]) (tmps : Array Value) (w : World) (g : Nat) (T : TypeId) (m : Mu)
    (hp : tmps.getD p undef = .pointer (some ⟨g, 0, none⟩)) (hb : Blk w g T (mc m)) : (results fn tmps).run Tryz.prog w = .ok (Mv m) w :=
  results_cell_row h tmps w g T (mc m) (0, 0) _ hp hb Tryz.underlying89 rfl (by rw [info_mul]; rfl)
set_option maxRecDepth 100000 in
set_option maxHeartbeats 4000000 in
theorem btextmulti_no (t x p : List UInt8) (k : Int) (w : World) (hl : Okc t x p) (hm : mayC t x p k = false) :
    Calls Tryz.prog 40 #[Cv t x p k] w fun e w' => e = .returned (Mv (multiT t x p k)) ∧ Below w.heap.size w w' := by
  have HF := hid (((Frm.start w).new 31 (cc t x p k).toArray rfl).new 89 (mc muNone) (n := w.heap.size + 1) (by simp))
  have HL := hid hl
  have hmay := fun u => bmay_any t x p k u hl
  have HO := hid (show multiT t x p k = muNone by unfold multiT; rw [if_neg (by rw [hm]; simp)])
  rw [hm] at hmay
  clear hm hl
  go_enter Tryz.func40, Tryz.ntmps40
  go_wp2_with (first
    | (refine at_load 31 (by rfl) ?_; refine wpList_loadE rfl rfl (HF.out.loadCv 0 rfl HL.out) rfl ?_)
    | (go_at_call 72; refine (hmay _).mono ?_; rintro e w1 ⟨rfl, hb1⟩; have HF1 := hid ((HF.out.call hb1).new 89 (mc muNone) rfl); clear hb1)
    | (refine at_load 89 (by rfl) ?_; refine wpList_loadE rfl rfl (HF1.out.loadMv (m := muNone) 2 rfl) rfl ?_)
    | (refine at_store 89 (by rfl) ?_; refine wpList_putM HF1.out 1 muNone muNone rfl rfl rfl rfl rfl ?_; intro w9 h9; have HF9 := hid h9; clear h9))
  exact bodyPost_ret (results_mv1 rfl _ _ _ _ muNone rfl (HF9.out.get 1 rfl)) rfl ⟨by rw [HO.out], HF9.out.bel⟩
set_option maxRecDepth 100000 in
set_option maxHeartbeats 4000000 in
theorem btextmulti_bare (t x p : List UInt8) (k : Int) (w : World) (hl : Okc t x p) (hm : mayC t x p k = true) (hn : named t = false) :
    Calls Tryz.prog 40 #[Cv t x p k] w fun e w' => e = .returned (Mv (multiT t x p k)) ∧ Below w.heap.size w w' := by
  have HF := hid (((Frm.start w).new 31 (cc t x p k).toArray rfl).new 89 (mc muNone) (n := w.heap.size + 1) (by simp))
  have HL := hid hl
  have hmay := fun u => bmay_any t x p k u hl
  have ht : t = zb 16 := Classical.byContradiction fun q => by rw [named_t.2 q] at hn; cases hn
  have hp : p = zb 8 := (mayC_of hm).2.2.2 ht
  have eq3 := fun u => run_neq_z8 u p hl.2.2
  rw [show (p == zb 8) = true by rw [hp]; simp] at eq3
  have HO := hid (show multiT t x p k = ([], [], [], if k = 3 then [] else letterS k, if k = 3 then [49] else []) by unfold multiT; rw [if_pos hm, if_pos ht, if_pos ht]; unfold within; rw [if_pos hp])
  have hlet := fun u => bletter_any k u
  generalize letterS k = K at HO hlet
  rw [hm, hn] at hmay
  clear hm hl hn ht hp
  go_enter Tryz.func40, Tryz.ntmps40
  go_wp2_with (first
    | (refine at_load 31 (by rfl) ?_; refine wpList_loadE rfl rfl (HF.out.loadCv 0 rfl HL.out) rfl ?_)
    | (go_at_call 72; refine (hmay _).mono ?_; rintro e w1 ⟨rfl, hb1⟩; have HF1 := hid ((HF.out.call hb1).new 89 (mc muNone) rfl); clear hb1)
    | (refine at_load 29 (by rfl) ?_; refine wpList_loadE rfl rfl (HF1.out.loadP 0 rfl HL.out) rfl ?_)
    | (refine at_load 3 (by rfl) ?_; refine wpList_loadE rfl rfl (HF1.out.loadK 0 rfl HL.out) rfl ?_)
    | (refine at_store 9 (by rfl) ?_; refine wpList_putMs HF1.out 2 muNone ([], [], [], [], [49]) 4 rfl rfl rfl rfl rfl (by decide) rfl ?_; intro w3 h3; have HF3 := hid h3; clear h3)
    | (refine at_load 89 (by rfl) ?_; refine wpList_loadE rfl rfl (HF3.out.loadMv (m := ([], [], [], [], [49])) 2 rfl) rfl ?_)
    | (refine at_store 89 (by rfl) ?_; refine wpList_putM HF3.out 1 muNone ([], [], [], [], [49]) rfl rfl rfl rfl rfl ?_; intro w9 h9; have HF9 := hid h9; clear h9)
    | (go_at_call 73; refine (hlet _).mono ?_; rintro e w4 ⟨rfl, hw4⟩; have HF4 := hid (HF1.out.call (w' := w4) (by rw [hw4]; exact Below.refl _ _)); clear hw4)
    | (refine at_store 9 (by rfl) ?_; refine wpList_putMs HF4.out 2 muNone ([], [], [], K, []) 3 rfl rfl rfl rfl rfl (by decide) rfl ?_; intro w5 h5; have HF5 := hid h5; clear h5)
    | (refine at_load 89 (by rfl) ?_; refine wpList_loadE rfl rfl (HF5.out.loadMv (m := ([], [], [], K, [])) 2 rfl) rfl ?_)
    | (refine at_store 89 (by rfl) ?_; refine wpList_putM HF5.out 1 muNone ([], [], [], K, []) rfl rfl rfl rfl rfl ?_; intro w9 h9; have HF9 := hid h9; clear h9))
  · have q : k = 3 := beqi_yes (by assumption)
    exact bodyPost_ret (results_mv1 rfl _ _ _ _ ([], [], [], [], [49]) rfl (HF9.out.get 1 rfl)) rfl ⟨by rw [HO.out, if_pos q, if_pos q], HF9.out.bel⟩
  · have q : k ≠ 3 := beqi_no (by assumption)
    exact bodyPost_ret (results_mv1 rfl _ _ _ _ ([], [], [], K, []) rfl (HF9.out.get 1 rfl)) rfl ⟨by rw [HO.out, if_neg q, if_neg q], HF9.out.bel⟩
set_option maxRecDepth 100000 in
set_option maxHeartbeats 4000000 in
theorem btextmulti_named (t x p : List UInt8) (k : Int) (w : World) (hl : Okc t x p) (hm : mayC t x p k = true) (hn : named t = true) :
    Calls Tryz.prog 40 #[Cv t x p k] w fun e w' => e = .returned (Mv (multiT t x p k)) ∧ Below w.heap.size w w' := by
  have HF := hid (((Frm.start w).new 31 (cc t x p k).toArray rfl).new 89 (mc muNone) (n := w.heap.size + 1) (by simp))
  have HL := hid hl
  have hmay := fun u => bmay_any t x p k u hl
  have htt := fun u => tracetext_any t u hl.1
  have hxt := fun u => spantext_any x u hl.2.1
  have hpt := fun u => spantext_any p u hl.2.2
  have eq3 := fun u => run_neq_z8 u p hl.2.2
  have HO := hid (show multiT t x p k = (hexEnc t, hexEnc x, if (p == zb 8) = true then [] else hexEnc p, if k = 3 then [] else letterS k, if k = 3 then [49] else []) by
    unfold multiT; rw [if_pos hm, if_neg (named_t.1 hn), if_neg (named_t.1 hn)]; unfold within; simp)
  have hlet := fun u => bletter_any k u
  generalize letterS k = K at HO hlet
  generalize hexEnc t = E at HO htt
  generalize hexEnc x = D at HO hxt
  generalize hexEnc p = G at HO hpt
  generalize (p == zb 8) = C at HO eq3
  rw [hm, hn] at hmay
  clear hm hl hn
  go_enter Tryz.func40, Tryz.ntmps40
  go_upto_region 6 with (first
    | (refine at_load 31 (by rfl) ?_; refine wpList_loadE rfl rfl (HF.out.loadCv 0 rfl HL.out) rfl ?_)
    | (go_at_call 72; refine (hmay _).mono ?_; rintro e w1 ⟨rfl, hb1⟩; have HF1 := hid ((HF.out.call hb1).new 89 (mc muNone) rfl); clear hb1))
  refine region_token_tail (fun _ u => Frm w u [(w.heap.size, 31, (cc t x p k).toArray), (w.heap.size + 1, 89, mc muNone), (w1.heap.size, 89, mc muNone)]) 0 undef 7 (by kernel_rfl) (by kernel_rfl) (HF1.out.drew) ?_
  repeat (first
    | (refine tok_off (by decide) (fun _ => by rfl) ?_; try simp only [Act.put, List.setIfInBounds_toArray, List.set_cons_zero, List.set_cons_succ])
    | (refine tok_pure (v := ?_) (by decide) (fun _ => by rfl) ?_ ?_; rotate_left; (focus (intro x u; simp only [fam]; go_simp; with_reducible rfl)); try simp only [Act.put, List.setIfInBounds_toArray, List.set_cons_zero, List.set_cons_succ]))
  refine tok_load 27 (.tmp 15) rfl (by decide) (fun _ => by rfl) (fun _ u h => h.loadT 0 rfl HL.out) ?_
  try simp only [Act.put, List.setIfInBounds_toArray, List.set_cons_zero, List.set_cons_succ]
  refine tok_call (fun _ u h => frm_call h (htt u)) (by decide) (fun _ => by rfl) (fun _ u => by simp only [fam]; go_simp) ?_
  try simp only [Act.put, List.setIfInBounds_toArray, List.set_cons_zero, List.set_cons_succ]
  repeat (first
    | (refine tok_off (by decide) (fun _ => by rfl) ?_; try simp only [Act.put, List.setIfInBounds_toArray, List.set_cons_zero, List.set_cons_succ])
    | (refine tok_pure (v := ?_) (by decide) (fun _ => by rfl) ?_ ?_; rotate_left; (focus (intro x u; simp only [fam]; go_simp; with_reducible rfl)); try simp only [Act.put, List.setIfInBounds_toArray, List.set_cons_zero, List.set_cons_succ]))
  refine tok_load 29 (.tmp 18) rfl (by decide) (fun _ => by rfl) (fun _ u h => h.loadX 0 rfl HL.out) ?_
  try simp only [Act.put, List.setIfInBounds_toArray, List.set_cons_zero, List.set_cons_succ]
  refine tok_call (fun _ u h => frm_call h (hxt u)) (by decide) (fun _ => by rfl) (fun _ u => by simp only [fam]; go_simp) ?_
  try simp only [Act.put, List.setIfInBounds_toArray, List.set_cons_zero, List.set_cons_succ]
  repeat (first
    | (refine tok_off (by decide) (fun _ => by rfl) ?_; try simp only [Act.put, List.setIfInBounds_toArray, List.set_cons_zero, List.set_cons_succ])
    | (refine tok_pure (v := ?_) (by decide) (fun _ => by rfl) ?_ ?_; rotate_left; (focus (intro x u; simp only [fam]; go_simp; with_reducible rfl)); try simp only [Act.put, List.setIfInBounds_toArray, List.set_cons_zero, List.set_cons_succ]))
  refine tok_nil (fun _ w2 h2 => ?_)
  simp only [fam]
  have HF2 := hid h2
  clear h2
  simp only [List.drop_succ_cons, List.drop_zero]
  cases C with
  | true =>
    go_wp2_with (first
      | (refine at_store 9 (by rfl) ?_; refine wpList_putMs HF2.out 2 muNone (E, [], [], [], []) 0 rfl rfl rfl rfl rfl (by decide) rfl ?_; intro w3 h3; have HF3 := hid h3; clear h3)
      | (refine at_store 9 (by rfl) ?_; refine wpList_putMs HF3.out 2 (E, [], [], [], []) (E, D, [], [], []) 1 rfl rfl rfl rfl rfl (by decide) rfl ?_; intro w4 h4; have HF4 := hid h4; clear h4)
      | (refine at_load 29 (by rfl) ?_; refine wpList_loadE rfl rfl (HF4.out.loadP 0 rfl HL.out) rfl ?_)
      | (refine at_load 3 (by rfl) ?_; refine wpList_loadE rfl rfl (HF4.out.loadK 0 rfl HL.out) rfl ?_)
      | (refine at_store 9 (by rfl) ?_; refine wpList_putMs HF4.out 2 (E, D, [], [], []) (E, D, [], [], [49]) 4 rfl rfl rfl rfl rfl (by decide) rfl ?_; intro w7 h7; have HF7 := hid h7; clear h7)
      | (refine at_load 89 (by rfl) ?_; refine wpList_loadE rfl rfl (HF7.out.loadMv (m := (E, D, [], [], [49])) 2 rfl) rfl ?_)
      | (refine at_store 89 (by rfl) ?_; refine wpList_putM HF7.out 1 muNone (E, D, [], [], [49]) rfl rfl rfl rfl rfl ?_; intro w9 h9; have HF9 := hid h9; clear h9)
      | (go_at_call 73; refine (hlet _).mono ?_; rintro e w8 ⟨rfl, hw8⟩; have HF8 := hid (HF4.out.call (w' := w8) (by rw [hw8]; exact Below.refl _ _)); clear hw8)
      | (refine at_store 9 (by rfl) ?_; refine wpList_putMs HF8.out 2 (E, D, [], [], []) (E, D, [], K, []) 3 rfl rfl rfl rfl rfl (by decide) rfl ?_; intro wa ha; have HFa := hid ha; clear ha)
      | (refine at_load 89 (by rfl) ?_; refine wpList_loadE rfl rfl (HFa.out.loadMv (m := (E, D, [], K, [])) 2 rfl) rfl ?_)
      | (refine at_store 89 (by rfl) ?_; refine wpList_putM HFa.out 1 muNone (E, D, [], K, []) rfl rfl rfl rfl rfl ?_; intro w9 h9; have HF9 := hid h9; clear h9))
    · have q : k = 3 := beqi_yes (by assumption)
      exact bodyPost_ret (results_mv1 rfl _ _ _ _ (E, D, [], [], [49]) rfl (HF9.out.get 1 rfl)) rfl ⟨by rw [HO.out, if_pos q, if_pos q]; rfl, HF9.out.bel⟩
    · have q : k ≠ 3 := beqi_no (by assumption)
      exact bodyPost_ret (results_mv1 rfl _ _ _ _ (E, D, [], K, []) rfl (HF9.out.get 1 rfl)) rfl ⟨by rw [HO.out, if_neg q, if_neg q]; rfl, HF9.out.bel⟩
  | false =>
    go_wp2_with (first
      | (refine at_store 9 (by rfl) ?_; refine wpList_putMs HF2.out 2 muNone (E, [], [], [], []) 0 rfl rfl rfl rfl rfl (by decide) rfl ?_; intro w3 h3; have HF3 := hid h3; clear h3)
      | (refine at_store 9 (by rfl) ?_; refine wpList_putMs HF3.out 2 (E, [], [], [], []) (E, D, [], [], []) 1 rfl rfl rfl rfl rfl (by decide) rfl ?_; intro w4 h4; have HF4 := hid h4; clear h4)
      | (refine at_load 29 (by rfl) ?_; refine wpList_loadE rfl rfl (HF4.out.loadP 0 rfl HL.out) rfl ?_)
      | (go_at_call 70; refine (hpt _).mono ?_; rintro e w5 ⟨rfl, hb5⟩; have HF5 := hid (HF4.out.call hb5); clear hb5)
      | (refine at_store 9 (by rfl) ?_; refine wpList_putMs HF5.out 2 (E, D, [], [], []) (E, D, G, [], []) 2 rfl rfl rfl rfl rfl (by decide) rfl ?_; intro w6 h6; have HF6 := hid h6; clear h6)
      | (refine at_load 3 (by rfl) ?_; refine wpList_loadE rfl rfl (HF6.out.loadK 0 rfl HL.out) rfl ?_)
      | (refine at_store 9 (by rfl) ?_; refine wpList_putMs HF6.out 2 (E, D, G, [], []) (E, D, G, [], [49]) 4 rfl rfl rfl rfl rfl (by decide) rfl ?_; intro w7 h7; have HF7 := hid h7; clear h7)
      | (refine at_load 89 (by rfl) ?_; refine wpList_loadE rfl rfl (HF7.out.loadMv (m := (E, D, G, [], [49])) 2 rfl) rfl ?_)
      | (refine at_store 89 (by rfl) ?_; refine wpList_putM HF7.out 1 muNone (E, D, G, [], [49]) rfl rfl rfl rfl rfl ?_; intro w9 h9; have HF9 := hid h9; clear h9)
      | (go_at_call 73; refine (hlet _).mono ?_; rintro e w8 ⟨rfl, hw8⟩; have HF8 := hid (HF6.out.call (w' := w8) (by rw [hw8]; exact Below.refl _ _)); clear hw8)
      | (refine at_store 9 (by rfl) ?_; refine wpList_putMs HF8.out 2 (E, D, G, [], []) (E, D, G, K, []) 3 rfl rfl rfl rfl rfl (by decide) rfl ?_; intro wa ha; have HFa := hid ha; clear ha)
      | (refine at_load 89 (by rfl) ?_; refine wpList_loadE rfl rfl (HFa.out.loadMv (m := (E, D, G, K, [])) 2 rfl) rfl ?_)
      | (refine at_store 89 (by rfl) ?_; refine wpList_putM HFa.out 1 muNone (E, D, G, K, []) rfl rfl rfl rfl rfl ?_; intro w9 h9; have HF9 := hid h9; clear h9))
    · have q : k = 3 := beqi_yes (by assumption)
      exact bodyPost_ret (results_mv1 rfl _ _ _ _ (E, D, G, [], [49]) rfl (HF9.out.get 1 rfl)) rfl ⟨by rw [HO.out, if_pos q, if_pos q]; rfl, HF9.out.bel⟩
    · have q : k ≠ 3 := beqi_no (by assumption)
      exact bodyPost_ret (results_mv1 rfl _ _ _ _ (E, D, G, K, []) rfl (HF9.out.get 1 rfl)) rfl ⟨by rw [HO.out, if_neg q, if_neg q]; rfl, HF9.out.bel⟩
theorem btextmulti_any (t x p : List UInt8) (k : Int) (w : World) (hl : Okc t x p) :
    Calls Tryz.prog 40 #[Cv t x p k] w fun e w' => e = .returned (Mv (multiT t x p k)) ∧ Below w.heap.size w w' := by
  cases hm : mayC t x p k with
  | false => exact btextmulti_no t x p k w hl hm
  | true =>
    cases hn : named t with
    | false => exact btextmulti_bare t x p k w hl hm hn
    | true => exact btextmulti_named t x p k w hl hm hn
end Go.Proofs.YtgfdmdikiickpaaGreatDoor
