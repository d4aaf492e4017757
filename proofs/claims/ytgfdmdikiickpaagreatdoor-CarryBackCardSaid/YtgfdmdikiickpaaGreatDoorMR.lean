/-
  Texts for the laws of this seat, merged: BrefG.
-/
import Derived.Test.YtgfdmdikiickpaaGreatDoorMA
import Derived.Test.YtgfdmdikiickpaaGreatDoorMQ
/-! BrefG -/
namespace Go.Proofs.YtgfdmdikiickpaaGreatDoor
open Go.RowKit

theorem spanR_len (s : List UInt8) : (spanR s).1.length = 8 := by
  unfold spanR
  split
  · exact zb_length 8
  · exact spanT_length s
theorem Frm.runSeg {w0 u : World} {L : List Bk} (h : Frm w0 u L) (i : Nat) {g : Nat} {T : TypeId} {pre post : List Value} {l q : List UInt8} (hi : L[i]? = some (g, T, (pre ++ (b8s l ++ post)).toArray)) (hl : q.length = l.length) :
    (storeCells ⟨g, pre.length, none⟩ (b8s q) 0).run Tryz.prog u = .ok () (u.setCells g pre.length (b8s q)) := by
  have ht := blk_there (h.get i hi)
  have := run_storeCells_cells (P := Tryz.prog) g pre.length (b8s q) 0 u (fun j hj => ?_) (fun j hj => ?_) (b8s_one q)
  · simpa using this
  · have := (ht j (by simp at hj; simp; omega)).1
    simpa using this
  · have := (ht j (by simp at hj; simp; omega)).2
    simpa using this
theorem Frm.updX {w0 u : World} {L : List Bk} (h : Frm w0 u L) (i : Nat) {g : Nat} {T : TypeId} {t x p q : List UInt8} {k : Int} (hi : L[i]? = some (g, T, (cc t x p k).toArray)) (hl : Okc t x p) (hq : q.length = 8) :
    (storeCells ⟨g, 16, none⟩ (b8s q) 0).run Tryz.prog u = .ok () (u.setCells g 16 (b8s q)) ∧ Frm w0 (u.setCells g 16 (b8s q)) (L.set i (g, T, (cc t q p k).toArray)) := by
  have hpre : (b8s t).length = 16 := by simp [hl.1]
  have hi' : L[i]? = some (g, T, (b8s t ++ (b8s x ++ (b8s p ++ [Value.int .i64 k]))).toArray) := by rw [← cc_span]; exact hi
  have r := h.runSeg i hi' (q := q) (by rw [hq, hl.2.1])
  have f := h.setSeg i hi' (b8s q) (by simp [hq, hl.2.1])
  rw [hpre] at r f
  rw [← cc_span] at f
  exact ⟨r, f⟩
theorem Frm.updP {w0 u : World} {L : List Bk} (h : Frm w0 u L) (i : Nat) {g : Nat} {T : TypeId} {t x p q : List UInt8} {k : Int} (hi : L[i]? = some (g, T, (cc t x p k).toArray)) (hl : Okc t x p) (hq : q.length = 8) :
    (storeCells ⟨g, 24, none⟩ (b8s q) 0).run Tryz.prog u = .ok () (u.setCells g 24 (b8s q)) ∧ Frm w0 (u.setCells g 24 (b8s q)) (L.set i (g, T, (cc t x q k).toArray)) := by
  have hpre : (b8s t ++ b8s x).length = 24 := by simp [hl.1, hl.2.1]
  have hi' : L[i]? = some (g, T, ((b8s t ++ b8s x) ++ (b8s p ++ [Value.int .i64 k])).toArray) := by rw [← cc_parent]; exact hi
  have r := h.runSeg i hi' (q := q) (by rw [hq, hl.2.2])
  have f := h.setSeg i hi' (b8s q) (by simp [hq, hl.2.2])
  rw [hpre] at r f
  rw [← cc_parent] at f
  exact ⟨r, f⟩
theorem samp_pair (q : Int × Int) (T X P : List UInt8) : (if q.2 = 0 then ((T, X, P, q.1, 0) : Cx) else cxBad 3) = sampledR (T, X, P, 0, 0) q := rfl
theorem multi_go {tr sp pa sa fl : List UInt8} (h1 : tr ≠ []) (h2 : sp ≠ []) : (traceC tr ≠ 0 → multiR (tr, sp, pa, sa, fl) = cxBad (traceC tr)) ∧ (traceC tr = 0 → (spanR sp).2 ≠ 0 → multiR (tr, sp, pa, sa, fl) = cxBad (spanR sp).2) ∧
    (traceC tr = 0 → (spanR sp).2 = 0 → (spanR pa).2 ≠ 0 → multiR (tr, sp, pa, sa, fl) = cxBad (spanR pa).2) ∧
    (traceC tr = 0 → (spanR sp).2 = 0 → (spanR pa).2 = 0 → multiR (tr, sp, pa, sa, fl) = sampledR (traceT tr, (spanR sp).1, (spanR pa).1, 0, 0) (sampR sa fl)) := by
  have e : multiR (tr, sp, pa, sa, fl) = sampledR (withinR (idsR tr sp) pa) (sampR sa fl) := by
    unfold multiR
    rw [if_neg (by unfold halfM; simp [h1, h2])]
    show sampledR (withinR (if tr = [] then cxBad 0 else idsR tr sp) pa) _ = _
    rw [if_neg h1]
  have e2 : spanR sp = (spanT sp, spanC sp) := if_neg h2
  rw [e, e2]
  simp only
  have bad : ∀ c : Int, c ≠ 0 → sampledR (withinR (cxBad c) pa) (sampR sa fl) = cxBad c := fun c hc => by
    unfold withinR
    split
    · unfold sampledR; rw [if_neg (show (cxBad c).2.2.2.2 ≠ 0 from hc)]
    · unfold parR; rw [if_neg (show (cxBad c).2.2.2.2 ≠ 0 from hc)]; unfold sampledR; rw [if_neg (show (cxBad c).2.2.2.2 ≠ 0 from hc)]
  refine ⟨fun h => ?_, fun ha h => ?_, fun ha hb h => ?_, fun ha hb h => ?_⟩
  · unfold idsR; rw [if_neg h]; exact bad _ h
  · unfold idsR; rw [if_pos ha, if_neg h]; exact bad _ h
  · unfold idsR; rw [if_pos ha, if_pos hb]
    by_cases hp : pa = []
    · subst hp; exact absurd rfl h
    · have e3 : spanR pa = (spanT pa, spanC pa) := if_neg hp
      rw [e3] at h ⊢
      unfold withinR parR; rw [if_neg hp, if_pos rfl, if_neg h]
      unfold sampledR; rw [if_neg (show (cxBad (spanC pa)).2.2.2.2 ≠ 0 from h)]
  · unfold idsR; rw [if_pos ha, if_pos hb]
    by_cases hp : pa = []
    · subst hp; rfl
    · have e3 : spanR pa = (spanT pa, spanC pa) := if_neg hp
      rw [e3] at h ⊢
      unfold withinR parR; rw [if_neg hp, if_pos rfl, if_pos h]
theorem run_storeX {w0 u : World} {L : List Bk} (h : Frm w0 u L) (i : Nat) {g : Nat} {T : TypeId} {t x p q : List UInt8} {k : Int} (hi : L[i]? = some (g, T, (cc t x p k).toArray)) (hl : Okc t x p) (hq : q.length = 8) :
    (Instr.storeAt 29 (.pointer (some ⟨g, 16, none⟩)) (Av q)).run Tryz.prog u = .ok () (u.setCells g 16 (b8s q)) ∧ Frm w0 (u.setCells g 16 (b8s q)) (L.set i (g, T, (cc t q p k).toArray)) := by
  obtain ⟨r, f⟩ := h.updX i hi hl hq
  refine ⟨?_, f⟩
  cases hq2 : Tryz.prog.info? 29 with
  | none => have := info_span; rw [hq2] at this; cases this
  | some j =>
    have hs : j.size = 8 := by have := info_span; rw [hq2] at this; simpa using this
    have hcl : (Value.agg (b8s q).toArray).cells = (b8s q).toArray := rfl
    simp [Instr.storeAt, Instr.sureAddr, storeVar, sizeOf, typeInfo, hq2, hs, Av, r, hq, hcl]
theorem run_storeP {w0 u : World} {L : List Bk} (h : Frm w0 u L) (i : Nat) {g : Nat} {T : TypeId} {t x p q : List UInt8} {k : Int} (hi : L[i]? = some (g, T, (cc t x p k).toArray)) (hl : Okc t x p) (hq : q.length = 8) :
    (Instr.storeAt 29 (.pointer (some ⟨g, 24, none⟩)) (Av q)).run Tryz.prog u = .ok () (u.setCells g 24 (b8s q)) ∧ Frm w0 (u.setCells g 24 (b8s q)) (L.set i (g, T, (cc t x q k).toArray)) := by
  obtain ⟨r, f⟩ := h.updP i hi hl hq
  refine ⟨?_, f⟩
  cases hq2 : Tryz.prog.info? 29 with
  | none => have := info_span; rw [hq2] at this; cases this
  | some j =>
    have hs : j.size = 8 := by have := info_span; rw [hq2] at this; simpa using this
    have hcl : (Value.agg (b8s q).toArray).cells = (b8s q).toArray := rfl
    simp [Instr.storeAt, Instr.sureAddr, storeVar, sizeOf, typeInfo, hq2, hs, Av, r, hq, hcl]
structure MG (m : Mu) (T X P : List UInt8) (a b c : Int) : Prop where
  bad1 : a ≠ 0 → multiR m = cxBad a
  bad2 : a = 0 → b ≠ 0 → multiR m = cxBad b
  bad3 : a = 0 → b = 0 → c ≠ 0 → multiR m = cxBad c
  good : a = 0 → b = 0 → c = 0 → multiR m = sampledR (T, X, P, 0, 0) (sampR m.2.2.2.1 m.2.2.2.2)
theorem beqs_ne {a b : List UInt8} (h : ¬ a = b) : (a == b) = false := by simpa using h
set_option maxRecDepth 100000 in
set_option maxHeartbeats 16000000 in
theorem rmulti_both (t1 x1 : UInt8) (t2 x2 pa sa fl : List UInt8) (w : World) (hm : shortM (t1 :: t2, x1 :: x2, pa, sa, fl)) :
    Calls Tryz.prog 32 #[Mv (t1 :: t2, x1 :: x2, pa, sa, fl)] w fun e w' => e = .returned (cxOut (multiR (t1 :: t2, x1 :: x2, pa, sa, fl))) ∧ Below w.heap.size w w' := by
  obtain ⟨hm1, hm2, hm3, hm4⟩ := multi_go (tr := t1 :: t2) (sp := x1 :: x2) (pa := pa) (sa := sa) (fl := fl) (by simp) (by simp)
  obtain ⟨s1, s2, s3⟩ := hm
  simp only at s1 s2 s3
  have htr := fun u => rreadtrace_any (t1 :: t2) u s1
  have hsp := fun u => rspan45_any (x1 :: x2) u s2
  have hpa := fun u => rspan45_any pa u s3
  have HTL := hid (traceT_length (t1 :: t2))
  have HXL := hid (spanR_len (x1 :: x2))
  have HPL := hid (spanR_len pa)
  generalize traceT (t1 :: t2) = T at htr hm4 HTL
  generalize traceC (t1 :: t2) = a at htr hm1 hm2 hm3 hm4
  generalize (spanR (x1 :: x2)).1 = X at hsp hm4 HXL
  generalize (spanR (x1 :: x2)).2 = b at hsp hm2 hm3 hm4
  generalize (spanR pa).1 = P at hpa hm4 HPL
  generalize (spanR pa).2 = c at hpa hm3 hm4
  have HM : MG (t1 :: t2, x1 :: x2, pa, sa, fl) T X P a b c := ⟨hm1, hm2, hm3, hm4⟩
  clear hm1 hm2 hm3 hm4 s1 s2 s3
  obtain ⟨W1, hW⟩ : ∃ W1, (w.alloc (.cells #[Sv (t1 :: t2), Sv (x1 :: x2), Sv (pa), Sv sa, Sv fl] 77)).alloc (.cells #[.int .u8 0, .int .u8 0, .int .u8 0, .int .u8 0, .int .u8 0, .int .u8 0, .int .u8 0, .int .u8 0, .int .u8 0, .int .u8 0, .int .u8 0, .int .u8 0, .int .u8 0, .int .u8 0, .int .u8 0, .int .u8 0, .int .u8 0, .int .u8 0, .int .u8 0, .int .u8 0, .int .u8 0, .int .u8 0, .int .u8 0, .int .u8 0, .int .u8 0, .int .u8 0, .int .u8 0, .int .u8 0, .int .u8 0, .int .u8 0, .int .u8 0, .int .u8 0, .int .i64 0] 31) = W1 := ⟨_, rfl⟩
  have hF : Frm w W1 [(w.heap.size, 77, mc (t1 :: t2, x1 :: x2, pa, sa, fl)), (w.heap.size + 1, 31, (cc (zb 16) (zb 8) (zb 8) 0).toArray)] := hW ▸ ((Frm.start w).new 77 #[Sv (t1 :: t2), Sv (x1 :: x2), Sv (pa), Sv sa, Sv fl] rfl).new0 31 (n := w.heap.size + 1) (by simp)
  obtain ⟨m0, m1, m2, m3, m4⟩ := hF.mcells 0 rfl
  simp only at m0 m1 m2 m3 m4
  obtain ⟨W2, hW2⟩ : ∃ W2, W1.alloc (.cells #[.int .u8 0, .int .u8 0, .int .u8 0, .int .u8 0, .int .u8 0, .int .u8 0, .int .u8 0, .int .u8 0, .int .u8 0, .int .u8 0, .int .u8 0, .int .u8 0, .int .u8 0, .int .u8 0, .int .u8 0, .int .u8 0, .int .u8 0, .int .u8 0, .int .u8 0, .int .u8 0, .int .u8 0, .int .u8 0, .int .u8 0, .int .u8 0, .int .u8 0, .int .u8 0, .int .u8 0, .int .u8 0, .int .u8 0, .int .u8 0, .int .u8 0, .int .u8 0, .int .i64 0] 31) = W2 := ⟨_, rfl⟩
  have hF2 : Frm w W2 [(w.heap.size, 77, mc (t1 :: t2, x1 :: x2, pa, sa, fl)), (w.heap.size + 1, 31, (cc (zb 16) (zb 8) (zb 8) 0).toArray), (W1.heap.size, 31, (cc (zb 16) (zb 8) (zb 8) 0).toArray)] := hW2 ▸ hF.new0 31 rfl
  have HF := hid hF2
  have HW := hid hW
  have HW2 := hid hW2
  clear hF hW hF2 hW2
  unfold Mv
  simp only
  go_enter Tryz.func32, Tryz.ntmps32
  go_upto_region 1 with fail
  rw [HW.out]
  go_upto_region 4 with fail
  rw [HW2.out]
  clear HW HW2 m0 m1 m2 m3 m4
  generalize W1.heap.size = G at HF ⊢
  go_upto_region 6 with (first
      | (refine at_load 9 (by rfl) ?_; refine wpList_loadE rfl rfl (run_load_str (HF.out.cell 0 rfl 0 rfl)) rfl ?_)
      | (go_at_call 62; (with_reducible refine (htr _).mono ?_); rintro e w0 ⟨rfl, hb0⟩; have HFa := hid ((HF.out.call hb0).new 27 (b8s (zb 16)).toArray rfl); clear hb0)
      | (refine at_store 27 (by rfl) ?_; refine wpList_put16 HFa.out 3 rfl rfl rfl (zb_length _) HTL.out rfl rfl ?_; intro wb hb; have HFb := hid hb; clear hb))
  by_cases ha : a = 0
  rotate_left
  · have HO2 := hid (show multiR (t1 :: t2, x1 :: x2, pa, sa, fl) = cxBad a from HM.bad1 ha)
    have qb := (by rw [beq_eq_false_iff_ne]; exact ha : (a == 0) = false)
    have qb2 : (a != 0) = true := by rw [bne_iff_ne]; exact ha
    go_wp2_with (first
          | (refine at_store 31 (by rfl) ?_; refine wpList_putCv HFb.out 1 (t := zb 16) (x := zb 8) (p := zb 8) (k := 0) rfl rfl rfl okc_zero okc_zero rfl rfl ?_; intro w9 h9; have HF9 := hid h9; clear h9))
    exact bodyPost_ret (results_cv2 rfl _ _ _ _ _ _ _ _ _ rfl (HF9.out.get 1 rfl) Tryz.underlying31 rfl info_ctx okc_zero) rfl ⟨by rw [HO2.out]; rfl, HF9.out.bel⟩
  subst ha
  go_upto_region 9 with (first
      | (refine at_load 27 (by rfl) ?_; refine wpList_loadE rfl rfl (HFb.out.load16 3 rfl HTL.out) rfl ?_)
      | (refine wpList_putT HFb.out 2 rfl rfl rfl okc_zero HTL.out rfl rfl ?_; intro wd hd; have HFd := hid hd; clear hd))
  go_upto_region 10 with (first
      | (refine at_load 9 (by rfl) ?_; refine wpList_loadE rfl rfl (run_load_str (HFd.out.cell 0 rfl 1 rfl)) rfl ?_)
      | (go_at_call 67; (with_reducible refine (hsp _).mono ?_); rintro e w2 ⟨rfl, hb2⟩; have HF2 := hid ((HFd.out.call hb2).new 29 (b8s (zb 8)).toArray rfl); clear hb2)
      | (refine at_store 29 (by rfl) ?_; refine wpList_put8 HF2.out 4 rfl rfl rfl (zb_length _) HXL.out rfl rfl ?_; intro w3 h3; have HF3 := hid h3; clear h3))
  by_cases hb : b = 0
  rotate_left
  · have HO2 := hid (show multiR (t1 :: t2, x1 :: x2, pa, sa, fl) = cxBad b from HM.bad2 rfl hb)
    have qb := (by rw [beq_eq_false_iff_ne]; exact hb : (b == 0) = false)
    have qb2 : (b != 0) = true := by rw [bne_iff_ne]; exact hb
    go_wp2_with (first
          | (refine at_store 31 (by rfl) ?_; refine wpList_putCv HF3.out 1 (t := zb 16) (x := zb 8) (p := zb 8) (k := 0) rfl rfl rfl okc_zero okc_zero rfl rfl ?_; intro w9 h9; have HF9 := hid h9; clear h9))
    exact bodyPost_ret (results_cv2 rfl _ _ _ _ _ _ _ _ _ rfl (HF9.out.get 1 rfl) Tryz.underlying31 rfl info_ctx okc_zero) rfl ⟨by rw [HO2.out]; rfl, HF9.out.bel⟩
  subst hb
  go_upto_region 13 with (first
      | (refine at_load 9 (by rfl) ?_; refine wpList_loadE rfl rfl (run_load_str (HF3.out.cell 0 rfl 2 rfl)) rfl ?_)
      | (go_at_call 67; (with_reducible refine (hpa _).mono ?_); rintro e w4 ⟨rfl, hb4⟩; have HF4 := hid ((HF3.out.call hb4).new 29 (b8s (zb 8)).toArray rfl); clear hb4)
      | (refine at_store 29 (by rfl) ?_; refine wpList_put8 HF4.out 5 rfl rfl rfl (zb_length _) HPL.out rfl rfl ?_; intro w5 h5; have HF5 := hid h5; clear h5))
  by_cases hc : c = 0
  rotate_left
  · have HO2 := hid (show multiR (t1 :: t2, x1 :: x2, pa, sa, fl) = cxBad c from HM.bad3 rfl rfl hc)
    have qb := (by rw [beq_eq_false_iff_ne]; exact hc : (c == 0) = false)
    have qb2 : (c != 0) = true := by rw [bne_iff_ne]; exact hc
    go_wp2_with (first
          | (refine at_store 31 (by rfl) ?_; refine wpList_putCv HF5.out 1 (t := zb 16) (x := zb 8) (p := zb 8) (k := 0) rfl rfl rfl okc_zero okc_zero rfl rfl ?_; intro w9 h9; have HF9 := hid h9; clear h9))
    exact bodyPost_ret (results_cv2 rfl _ _ _ _ _ _ _ _ _ rfl (HF9.out.get 1 rfl) Tryz.underlying31 rfl info_ctx okc_zero) rfl ⟨by rw [HO2.out]; rfl, HF9.out.bel⟩
  subst hc
  go_upto_region 15 with fail
  generalize w2.heap.size = g1 at HF5 ⊢
  generalize w4.heap.size = g2 at HF5 ⊢
  refine wp_region_held_drew (S := fun u => (Instr.loadAt 29 (.pointer (some ⟨g1, 0, none⟩))).run Tryz.prog u = .ok (Av X) u ∧ (Instr.loadAt 29 (.pointer (some ⟨g2, 0, none⟩))).run Tryz.prog u = .ok (Av P) u) (by kernel_rfl) ⟨HF5.out.drew.load8 4 rfl HXL.out, HF5.out.drew.load8 5 rfl HPL.out⟩ (fun hS0 => ?_)
  have HF6 := hid (HF5.out.drew)
  generalize w5.drew = u0 at HF6 hS0 ⊢
  clear HF HF2 HF3 HF4 HF5
  refine held_step (i := 0) (some 66) (v := _) (by rfl) (by kernel_rfl) (by kernel_rfl) (by kernel_rfl) (fun _ _ _ h => h) (fun o ho => by (simp only [List.getElem?_toArray, List.getElem?_cons_zero, Option.some.injEq] at ho; subst ho; exact Or.inl ⟨by rfl, fun u hSu => run_load_of rfl hSu.1⟩)) (by assumption) ?_
  try simp only [Act.put, List.setIfInBounds_toArray, List.set_cons_zero, List.set_cons_succ]
  refine held_step (i := 1) (some 67) (v := _) (by rfl) (by kernel_rfl) (by kernel_rfl) (by kernel_rfl) (fun _ _ _ h => h) (fun o ho => by (simp only [List.getElem?_toArray, List.getElem?_cons_zero, List.getElem?_cons_succ, Option.some.injEq] at ho; subst ho; exact Or.inl ⟨by rfl, fun u hSu => run_load_of rfl hSu.2⟩)) (by assumption) ?_
  try simp only [Act.put, List.setIfInBounds_toArray, List.set_cons_zero, List.set_cons_succ]
  refine held_step (i := 2) (some 68) (v := ?hv1) (by rfl) (by kernel_rfl) (by kernel_rfl) (by kernel_rfl) (fun _ _ _ h => h) ?hy1 (by assumption) ?hr1
  case hy1 => (intro o ho; simp only [List.getElem?_toArray, List.getElem?_cons_zero, List.getElem?_cons_succ, Option.some.injEq] at ho; subst ho; refine Or.inl ⟨by rfl, fun u hSu => ?_⟩; clear hSu; go_simp; with_reducible rfl)
  try simp only [Act.put, List.setIfInBounds_toArray, List.set_cons_zero, List.set_cons_succ]
  have hx1 := run_storeX HF6.out 2 rfl ⟨HTL.out, zb_length 8, zb_length 8⟩ HXL.out
  obtain ⟨rx, fx⟩ := hx1
  have HF7 := hid fx
  generalize hw7 : u0.setCells G 16 (b8s X) = u1 at HF7 rx
  clear fx hw7
  refine wpAnyH_ready (rs := [3]) (by kernel_rfl) (by simp) ?_
  refine AllReadyH.cons rfl (fun K hK => ?_) AllReadyH.nil
  rw [if_pos (by rfl)]
  unfold Oper.wp
  simp [execOp, Act.eval, rx, Result.andThen]
  refine hK.out _ _ ⟨HF7.out.load8 4 rfl HXL.out, HF7.out.load8 5 rfl HPL.out⟩ (fun hS1 => ?_)
  clear hK rx
  try simp only [Act.put]
  refine held_step (i := 4) (some 69) (v := ?hv2) (by rfl) (by kernel_rfl) (by kernel_rfl) (by kernel_rfl) (fun _ _ _ h => h) ?hy2 (by assumption) ?hr2
  case hy2 => (intro o ho; simp only [List.getElem?_toArray, List.getElem?_cons_zero, List.getElem?_cons_succ, Option.some.injEq] at ho; subst ho; refine Or.inl ⟨by rfl, fun u hSu => ?_⟩; clear hSu; go_simp; with_reducible rfl)
  try simp only [Act.put, List.setIfInBounds_toArray, List.set_cons_zero, List.set_cons_succ]
  obtain ⟨rp, fp⟩ := run_storeP HF7.out 2 rfl ⟨HTL.out, HXL.out, zb_length 8⟩ HPL.out
  have HF8 := hid fp
  generalize hw8 : u1.setCells G 24 (b8s P) = u2 at HF8 rp
  clear fp hw8
  refine wpAnyH_ready (rs := [5]) (by kernel_rfl) (by simp) ?_
  refine AllReadyH.cons rfl (fun K hK => ?_) AllReadyH.nil
  rw [if_pos (by rfl)]
  unfold Oper.wp
  simp [execOp, Act.eval, rp, Result.andThen]
  refine hK.out _ _ ⟨HF8.out.load8 4 rfl HXL.out, HF8.out.load8 5 rfl HPL.out⟩ (fun hS2 => ?_)
  clear hK rp
  try simp only [Act.put]
  refine wpAnyH_done (by kernel_rfl) ?_ _
  clear hS0 hS1 hS2 HF6 HF7
  have HOKC := hid (show Okc T X P from ⟨HTL.out, HXL.out, HPL.out⟩)
  obtain ⟨e0, e1, e2, e3, e4⟩ := HF8.out.mcells 0 rfl
  simp only at e0 e1 e2 e3 e4
  clear e0 e1 e2
  by_cases ha1 : sa = [48]
  · subst ha1
    by_cases hf1 : fl = [49]
    · subst hf1
      have HO2 := hid (show multiR (t1 :: t2, x1 :: x2, pa, [48], [49]) = (T, X, P, 3, 0) by rw [(HM.good rfl rfl rfl), show sampR [48] [49] = (3, 0) by decide]; rfl)
      go_wp2_with (first
              | (refine at_store 3 (by rfl) ?_; refine wpList_putK HF8.out 2 rfl rfl rfl HOKC.out rfl rfl ?_; intro wk hk; have HFk := hid hk; obtain ⟨f0, f1, f2, f3, f4⟩ := hk.mcells 0 rfl; simp only at f0 f1 f2 f3 f4; clear hk)
              | (refine at_store 3 (by rfl) ?_; refine wpList_putK HFk.out 2 rfl rfl rfl HOKC.out rfl rfl ?_; intro wl hk; have HFl := hid hk; obtain ⟨f0, f1, f2, f3, f4⟩ := hk.mcells 0 rfl; simp only at f0 f1 f2 f3 f4; clear hk)
              | (refine at_load 31 (by rfl) ?_; refine wpList_loadE rfl rfl (HFl.out.loadCv 2 rfl HOKC.out) rfl ?_)
              | (refine at_store 31 (by rfl) ?_; refine wpList_putCv HFl.out 1 rfl rfl rfl okc_zero HOKC.out rfl rfl ?_; intro w9 h9; have HF9 := hid h9; clear h9))
      exact bodyPost_ret (results_cv2 rfl _ _ _ _ _ _ _ _ _ rfl (HF9.out.get 1 rfl) Tryz.underlying31 rfl info_ctx HOKC.out) rfl ⟨by rw [HO2.out]; rfl, HF9.out.bel⟩
    by_cases hf2 : fl = []
    · subst hf2
      have HO2 := hid (show multiR (t1 :: t2, x1 :: x2, pa, [48], []) = (T, X, P, 1, 0) by rw [(HM.good rfl rfl rfl), show sampR [48] [] = (1, 0) by decide]; rfl)
      go_wp2_with (first
              | (refine at_store 3 (by rfl) ?_; refine wpList_putK HF8.out 2 rfl rfl rfl HOKC.out rfl rfl ?_; intro wk hk; have HFk := hid hk; obtain ⟨f0, f1, f2, f3, f4⟩ := hk.mcells 0 rfl; simp only at f0 f1 f2 f3 f4; clear hk)
              | (refine at_load 31 (by rfl) ?_; refine wpList_loadE rfl rfl (HFk.out.loadCv 2 rfl HOKC.out) rfl ?_)
              | (refine at_store 31 (by rfl) ?_; refine wpList_putCv HFk.out 1 rfl rfl rfl okc_zero HOKC.out rfl rfl ?_; intro w9 h9; have HF9 := hid h9; clear h9))
      exact bodyPost_ret (results_cv2 rfl _ _ _ _ _ _ _ _ _ rfl (HF9.out.get 1 rfl) Tryz.underlying31 rfl info_ctx HOKC.out) rfl ⟨by rw [HO2.out]; rfl, HF9.out.bel⟩
    by_cases hf3 : fl = [48]
    · subst hf3
      have HO2 := hid (show multiR (t1 :: t2, x1 :: x2, pa, [48], [48]) = (T, X, P, 1, 0) by rw [(HM.good rfl rfl rfl), show sampR [48] [48] = (1, 0) by decide]; rfl)
      go_wp2_with (first
              | (refine at_store 3 (by rfl) ?_; refine wpList_putK HF8.out 2 rfl rfl rfl HOKC.out rfl rfl ?_; intro wk hk; have HFk := hid hk; obtain ⟨f0, f1, f2, f3, f4⟩ := hk.mcells 0 rfl; simp only at f0 f1 f2 f3 f4; clear hk)
              | (refine at_load 31 (by rfl) ?_; refine wpList_loadE rfl rfl (HFk.out.loadCv 2 rfl HOKC.out) rfl ?_)
              | (refine at_store 31 (by rfl) ?_; refine wpList_putCv HFk.out 1 rfl rfl rfl okc_zero HOKC.out rfl rfl ?_; intro w9 h9; have HF9 := hid h9; clear h9))
      exact bodyPost_ret (results_cv2 rfl _ _ _ _ _ _ _ _ _ rfl (HF9.out.get 1 rfl) Tryz.underlying31 rfl info_ctx HOKC.out) rfl ⟨by rw [HO2.out]; rfl, HF9.out.bel⟩
    have HO2 := hid (show multiR (t1 :: t2, x1 :: x2, pa, [48], fl) = cxBad 3 by rw [(HM.good rfl rfl rfl), sampR_eq]; unfold flagR sampledR; simp [hf1, hf2, hf3])
    have b1 := beqs_ne hf1
    have b2 := beqs_ne hf2
    have b3 := beqs_ne hf3
    clear hf1 hf2 hf3
    go_wp2_with (first
          | (refine at_store 3 (by rfl) ?_; refine wpList_putK HF8.out 2 rfl rfl rfl HOKC.out rfl rfl ?_; intro wk hk; have HFk := hid hk; obtain ⟨f0, f1, f2, f3, f4⟩ := hk.mcells 0 rfl; simp only at f0 f1 f2 f3 f4; clear hk)
          | (refine at_store 31 (by rfl) ?_; refine wpList_putCv HFk.out 1 (t := zb 16) (x := zb 8) (p := zb 8) (k := 0) rfl rfl rfl okc_zero okc_zero rfl rfl ?_; intro w9 h9; have HF9 := hid h9; clear h9))
    exact bodyPost_ret (results_cv2 rfl _ _ _ _ _ _ _ _ _ rfl (HF9.out.get 1 rfl) Tryz.underlying31 rfl info_ctx okc_zero) rfl ⟨by rw [HO2.out]; rfl, HF9.out.bel⟩
  by_cases ha2 : sa = [102, 97, 108, 115, 101]
  · subst ha2
    by_cases hf1 : fl = [49]
    · subst hf1
      have HO2 := hid (show multiR (t1 :: t2, x1 :: x2, pa, [102, 97, 108, 115, 101], [49]) = (T, X, P, 3, 0) by rw [(HM.good rfl rfl rfl), show sampR [102, 97, 108, 115, 101] [49] = (3, 0) by decide]; rfl)
      go_wp2_with (first
              | (refine at_store 3 (by rfl) ?_; refine wpList_putK HF8.out 2 rfl rfl rfl HOKC.out rfl rfl ?_; intro wk hk; have HFk := hid hk; obtain ⟨f0, f1, f2, f3, f4⟩ := hk.mcells 0 rfl; simp only at f0 f1 f2 f3 f4; clear hk)
              | (refine at_store 3 (by rfl) ?_; refine wpList_putK HFk.out 2 rfl rfl rfl HOKC.out rfl rfl ?_; intro wl hk; have HFl := hid hk; obtain ⟨f0, f1, f2, f3, f4⟩ := hk.mcells 0 rfl; simp only at f0 f1 f2 f3 f4; clear hk)
              | (refine at_load 31 (by rfl) ?_; refine wpList_loadE rfl rfl (HFl.out.loadCv 2 rfl HOKC.out) rfl ?_)
              | (refine at_store 31 (by rfl) ?_; refine wpList_putCv HFl.out 1 rfl rfl rfl okc_zero HOKC.out rfl rfl ?_; intro w9 h9; have HF9 := hid h9; clear h9))
      exact bodyPost_ret (results_cv2 rfl _ _ _ _ _ _ _ _ _ rfl (HF9.out.get 1 rfl) Tryz.underlying31 rfl info_ctx HOKC.out) rfl ⟨by rw [HO2.out]; rfl, HF9.out.bel⟩
    by_cases hf2 : fl = []
    · subst hf2
      have HO2 := hid (show multiR (t1 :: t2, x1 :: x2, pa, [102, 97, 108, 115, 101], []) = (T, X, P, 1, 0) by rw [(HM.good rfl rfl rfl), show sampR [102, 97, 108, 115, 101] [] = (1, 0) by decide]; rfl)
      go_wp2_with (first
              | (refine at_store 3 (by rfl) ?_; refine wpList_putK HF8.out 2 rfl rfl rfl HOKC.out rfl rfl ?_; intro wk hk; have HFk := hid hk; obtain ⟨f0, f1, f2, f3, f4⟩ := hk.mcells 0 rfl; simp only at f0 f1 f2 f3 f4; clear hk)
              | (refine at_load 31 (by rfl) ?_; refine wpList_loadE rfl rfl (HFk.out.loadCv 2 rfl HOKC.out) rfl ?_)
              | (refine at_store 31 (by rfl) ?_; refine wpList_putCv HFk.out 1 rfl rfl rfl okc_zero HOKC.out rfl rfl ?_; intro w9 h9; have HF9 := hid h9; clear h9))
      exact bodyPost_ret (results_cv2 rfl _ _ _ _ _ _ _ _ _ rfl (HF9.out.get 1 rfl) Tryz.underlying31 rfl info_ctx HOKC.out) rfl ⟨by rw [HO2.out]; rfl, HF9.out.bel⟩
    by_cases hf3 : fl = [48]
    · subst hf3
      have HO2 := hid (show multiR (t1 :: t2, x1 :: x2, pa, [102, 97, 108, 115, 101], [48]) = (T, X, P, 1, 0) by rw [(HM.good rfl rfl rfl), show sampR [102, 97, 108, 115, 101] [48] = (1, 0) by decide]; rfl)
      go_wp2_with (first
              | (refine at_store 3 (by rfl) ?_; refine wpList_putK HF8.out 2 rfl rfl rfl HOKC.out rfl rfl ?_; intro wk hk; have HFk := hid hk; obtain ⟨f0, f1, f2, f3, f4⟩ := hk.mcells 0 rfl; simp only at f0 f1 f2 f3 f4; clear hk)
              | (refine at_load 31 (by rfl) ?_; refine wpList_loadE rfl rfl (HFk.out.loadCv 2 rfl HOKC.out) rfl ?_)
              | (refine at_store 31 (by rfl) ?_; refine wpList_putCv HFk.out 1 rfl rfl rfl okc_zero HOKC.out rfl rfl ?_; intro w9 h9; have HF9 := hid h9; clear h9))
      exact bodyPost_ret (results_cv2 rfl _ _ _ _ _ _ _ _ _ rfl (HF9.out.get 1 rfl) Tryz.underlying31 rfl info_ctx HOKC.out) rfl ⟨by rw [HO2.out]; rfl, HF9.out.bel⟩
    have HO2 := hid (show multiR (t1 :: t2, x1 :: x2, pa, [102, 97, 108, 115, 101], fl) = cxBad 3 by rw [(HM.good rfl rfl rfl), sampR_eq]; unfold flagR sampledR; simp [hf1, hf2, hf3, sfalse])
    have b1 := beqs_ne hf1
    have b2 := beqs_ne hf2
    have b3 := beqs_ne hf3
    clear hf1 hf2 hf3
    go_wp2_with (first
          | (refine at_store 3 (by rfl) ?_; refine wpList_putK HF8.out 2 rfl rfl rfl HOKC.out rfl rfl ?_; intro wk hk; have HFk := hid hk; obtain ⟨f0, f1, f2, f3, f4⟩ := hk.mcells 0 rfl; simp only at f0 f1 f2 f3 f4; clear hk)
          | (refine at_store 31 (by rfl) ?_; refine wpList_putCv HFk.out 1 (t := zb 16) (x := zb 8) (p := zb 8) (k := 0) rfl rfl rfl okc_zero okc_zero rfl rfl ?_; intro w9 h9; have HF9 := hid h9; clear h9))
    exact bodyPost_ret (results_cv2 rfl _ _ _ _ _ _ _ _ _ rfl (HF9.out.get 1 rfl) Tryz.underlying31 rfl info_ctx okc_zero) rfl ⟨by rw [HO2.out]; rfl, HF9.out.bel⟩
  by_cases ha3 : sa = [49]
  · subst ha3
    by_cases hf1 : fl = [49]
    · subst hf1
      have HO2 := hid (show multiR (t1 :: t2, x1 :: x2, pa, [49], [49]) = (T, X, P, 3, 0) by rw [(HM.good rfl rfl rfl), show sampR [49] [49] = (3, 0) by decide]; rfl)
      go_wp2_with (first
              | (refine at_store 3 (by rfl) ?_; refine wpList_putK HF8.out 2 rfl rfl rfl HOKC.out rfl rfl ?_; intro wk hk; have HFk := hid hk; obtain ⟨f0, f1, f2, f3, f4⟩ := hk.mcells 0 rfl; simp only at f0 f1 f2 f3 f4; clear hk)
              | (refine at_store 3 (by rfl) ?_; refine wpList_putK HFk.out 2 rfl rfl rfl HOKC.out rfl rfl ?_; intro wl hk; have HFl := hid hk; obtain ⟨f0, f1, f2, f3, f4⟩ := hk.mcells 0 rfl; simp only at f0 f1 f2 f3 f4; clear hk)
              | (refine at_load 31 (by rfl) ?_; refine wpList_loadE rfl rfl (HFl.out.loadCv 2 rfl HOKC.out) rfl ?_)
              | (refine at_store 31 (by rfl) ?_; refine wpList_putCv HFl.out 1 rfl rfl rfl okc_zero HOKC.out rfl rfl ?_; intro w9 h9; have HF9 := hid h9; clear h9))
      exact bodyPost_ret (results_cv2 rfl _ _ _ _ _ _ _ _ _ rfl (HF9.out.get 1 rfl) Tryz.underlying31 rfl info_ctx HOKC.out) rfl ⟨by rw [HO2.out]; rfl, HF9.out.bel⟩
    by_cases hf2 : fl = []
    · subst hf2
      have HO2 := hid (show multiR (t1 :: t2, x1 :: x2, pa, [49], []) = (T, X, P, 2, 0) by rw [(HM.good rfl rfl rfl), show sampR [49] [] = (2, 0) by decide]; rfl)
      go_wp2_with (first
              | (refine at_store 3 (by rfl) ?_; refine wpList_putK HF8.out 2 rfl rfl rfl HOKC.out rfl rfl ?_; intro wk hk; have HFk := hid hk; obtain ⟨f0, f1, f2, f3, f4⟩ := hk.mcells 0 rfl; simp only at f0 f1 f2 f3 f4; clear hk)
              | (refine at_load 31 (by rfl) ?_; refine wpList_loadE rfl rfl (HFk.out.loadCv 2 rfl HOKC.out) rfl ?_)
              | (refine at_store 31 (by rfl) ?_; refine wpList_putCv HFk.out 1 rfl rfl rfl okc_zero HOKC.out rfl rfl ?_; intro w9 h9; have HF9 := hid h9; clear h9))
      exact bodyPost_ret (results_cv2 rfl _ _ _ _ _ _ _ _ _ rfl (HF9.out.get 1 rfl) Tryz.underlying31 rfl info_ctx HOKC.out) rfl ⟨by rw [HO2.out]; rfl, HF9.out.bel⟩
    by_cases hf3 : fl = [48]
    · subst hf3
      have HO2 := hid (show multiR (t1 :: t2, x1 :: x2, pa, [49], [48]) = (T, X, P, 2, 0) by rw [(HM.good rfl rfl rfl), show sampR [49] [48] = (2, 0) by decide]; rfl)
      go_wp2_with (first
              | (refine at_store 3 (by rfl) ?_; refine wpList_putK HF8.out 2 rfl rfl rfl HOKC.out rfl rfl ?_; intro wk hk; have HFk := hid hk; obtain ⟨f0, f1, f2, f3, f4⟩ := hk.mcells 0 rfl; simp only at f0 f1 f2 f3 f4; clear hk)
              | (refine at_load 31 (by rfl) ?_; refine wpList_loadE rfl rfl (HFk.out.loadCv 2 rfl HOKC.out) rfl ?_)
              | (refine at_store 31 (by rfl) ?_; refine wpList_putCv HFk.out 1 rfl rfl rfl okc_zero HOKC.out rfl rfl ?_; intro w9 h9; have HF9 := hid h9; clear h9))
      exact bodyPost_ret (results_cv2 rfl _ _ _ _ _ _ _ _ _ rfl (HF9.out.get 1 rfl) Tryz.underlying31 rfl info_ctx HOKC.out) rfl ⟨by rw [HO2.out]; rfl, HF9.out.bel⟩
    have HO2 := hid (show multiR (t1 :: t2, x1 :: x2, pa, [49], fl) = cxBad 3 by rw [(HM.good rfl rfl rfl), sampR_eq]; unfold flagR sampledR; simp [hf1, hf2, hf3, sfalse])
    have b1 := beqs_ne hf1
    have b2 := beqs_ne hf2
    have b3 := beqs_ne hf3
    clear hf1 hf2 hf3
    go_wp2_with (first
          | (refine at_store 3 (by rfl) ?_; refine wpList_putK HF8.out 2 rfl rfl rfl HOKC.out rfl rfl ?_; intro wk hk; have HFk := hid hk; obtain ⟨f0, f1, f2, f3, f4⟩ := hk.mcells 0 rfl; simp only at f0 f1 f2 f3 f4; clear hk)
          | (refine at_store 31 (by rfl) ?_; refine wpList_putCv HFk.out 1 (t := zb 16) (x := zb 8) (p := zb 8) (k := 0) rfl rfl rfl okc_zero okc_zero rfl rfl ?_; intro w9 h9; have HF9 := hid h9; clear h9))
    exact bodyPost_ret (results_cv2 rfl _ _ _ _ _ _ _ _ _ rfl (HF9.out.get 1 rfl) Tryz.underlying31 rfl info_ctx okc_zero) rfl ⟨by rw [HO2.out]; rfl, HF9.out.bel⟩
  by_cases ha4 : sa = [116, 114, 117, 101]
  · subst ha4
    by_cases hf1 : fl = [49]
    · subst hf1
      have HO2 := hid (show multiR (t1 :: t2, x1 :: x2, pa, [116, 114, 117, 101], [49]) = (T, X, P, 3, 0) by rw [(HM.good rfl rfl rfl), show sampR [116, 114, 117, 101] [49] = (3, 0) by decide]; rfl)
      go_wp2_with (first
              | (refine at_store 3 (by rfl) ?_; refine wpList_putK HF8.out 2 rfl rfl rfl HOKC.out rfl rfl ?_; intro wk hk; have HFk := hid hk; obtain ⟨f0, f1, f2, f3, f4⟩ := hk.mcells 0 rfl; simp only at f0 f1 f2 f3 f4; clear hk)
              | (refine at_store 3 (by rfl) ?_; refine wpList_putK HFk.out 2 rfl rfl rfl HOKC.out rfl rfl ?_; intro wl hk; have HFl := hid hk; obtain ⟨f0, f1, f2, f3, f4⟩ := hk.mcells 0 rfl; simp only at f0 f1 f2 f3 f4; clear hk)
              | (refine at_load 31 (by rfl) ?_; refine wpList_loadE rfl rfl (HFl.out.loadCv 2 rfl HOKC.out) rfl ?_)
              | (refine at_store 31 (by rfl) ?_; refine wpList_putCv HFl.out 1 rfl rfl rfl okc_zero HOKC.out rfl rfl ?_; intro w9 h9; have HF9 := hid h9; clear h9))
      exact bodyPost_ret (results_cv2 rfl _ _ _ _ _ _ _ _ _ rfl (HF9.out.get 1 rfl) Tryz.underlying31 rfl info_ctx HOKC.out) rfl ⟨by rw [HO2.out]; rfl, HF9.out.bel⟩
    by_cases hf2 : fl = []
    · subst hf2
      have HO2 := hid (show multiR (t1 :: t2, x1 :: x2, pa, [116, 114, 117, 101], []) = (T, X, P, 2, 0) by rw [(HM.good rfl rfl rfl), show sampR [116, 114, 117, 101] [] = (2, 0) by decide]; rfl)
      go_wp2_with (first
              | (refine at_store 3 (by rfl) ?_; refine wpList_putK HF8.out 2 rfl rfl rfl HOKC.out rfl rfl ?_; intro wk hk; have HFk := hid hk; obtain ⟨f0, f1, f2, f3, f4⟩ := hk.mcells 0 rfl; simp only at f0 f1 f2 f3 f4; clear hk)
              | (refine at_load 31 (by rfl) ?_; refine wpList_loadE rfl rfl (HFk.out.loadCv 2 rfl HOKC.out) rfl ?_)
              | (refine at_store 31 (by rfl) ?_; refine wpList_putCv HFk.out 1 rfl rfl rfl okc_zero HOKC.out rfl rfl ?_; intro w9 h9; have HF9 := hid h9; clear h9))
      exact bodyPost_ret (results_cv2 rfl _ _ _ _ _ _ _ _ _ rfl (HF9.out.get 1 rfl) Tryz.underlying31 rfl info_ctx HOKC.out) rfl ⟨by rw [HO2.out]; rfl, HF9.out.bel⟩
    by_cases hf3 : fl = [48]
    · subst hf3
      have HO2 := hid (show multiR (t1 :: t2, x1 :: x2, pa, [116, 114, 117, 101], [48]) = (T, X, P, 2, 0) by rw [(HM.good rfl rfl rfl), show sampR [116, 114, 117, 101] [48] = (2, 0) by decide]; rfl)
      go_wp2_with (first
              | (refine at_store 3 (by rfl) ?_; refine wpList_putK HF8.out 2 rfl rfl rfl HOKC.out rfl rfl ?_; intro wk hk; have HFk := hid hk; obtain ⟨f0, f1, f2, f3, f4⟩ := hk.mcells 0 rfl; simp only at f0 f1 f2 f3 f4; clear hk)
              | (refine at_load 31 (by rfl) ?_; refine wpList_loadE rfl rfl (HFk.out.loadCv 2 rfl HOKC.out) rfl ?_)
              | (refine at_store 31 (by rfl) ?_; refine wpList_putCv HFk.out 1 rfl rfl rfl okc_zero HOKC.out rfl rfl ?_; intro w9 h9; have HF9 := hid h9; clear h9))
      exact bodyPost_ret (results_cv2 rfl _ _ _ _ _ _ _ _ _ rfl (HF9.out.get 1 rfl) Tryz.underlying31 rfl info_ctx HOKC.out) rfl ⟨by rw [HO2.out]; rfl, HF9.out.bel⟩
    have HO2 := hid (show multiR (t1 :: t2, x1 :: x2, pa, [116, 114, 117, 101], fl) = cxBad 3 by rw [(HM.good rfl rfl rfl), sampR_eq]; unfold flagR sampledR; simp [hf1, hf2, hf3, sfalse, strue])
    have b1 := beqs_ne hf1
    have b2 := beqs_ne hf2
    have b3 := beqs_ne hf3
    clear hf1 hf2 hf3
    go_wp2_with (first
          | (refine at_store 3 (by rfl) ?_; refine wpList_putK HF8.out 2 rfl rfl rfl HOKC.out rfl rfl ?_; intro wk hk; have HFk := hid hk; obtain ⟨f0, f1, f2, f3, f4⟩ := hk.mcells 0 rfl; simp only at f0 f1 f2 f3 f4; clear hk)
          | (refine at_store 31 (by rfl) ?_; refine wpList_putCv HFk.out 1 (t := zb 16) (x := zb 8) (p := zb 8) (k := 0) rfl rfl rfl okc_zero okc_zero rfl rfl ?_; intro w9 h9; have HF9 := hid h9; clear h9))
    exact bodyPost_ret (results_cv2 rfl _ _ _ _ _ _ _ _ _ rfl (HF9.out.get 1 rfl) Tryz.underlying31 rfl info_ctx okc_zero) rfl ⟨by rw [HO2.out]; rfl, HF9.out.bel⟩
  by_cases ha5 : sa = []
  · subst ha5
    by_cases hf1 : fl = [49]
    · subst hf1
      have HO2 := hid (show multiR (t1 :: t2, x1 :: x2, pa, [], [49]) = (T, X, P, 3, 0) by rw [(HM.good rfl rfl rfl), show sampR [] [49] = (3, 0) by decide]; rfl)
      go_wp2_with (first
              | (refine at_store 3 (by rfl) ?_; refine wpList_putK HF8.out 2 rfl rfl rfl HOKC.out rfl rfl ?_; intro wl hk; have HFl := hid hk; obtain ⟨f0, f1, f2, f3, f4⟩ := hk.mcells 0 rfl; simp only at f0 f1 f2 f3 f4; clear hk)
              | (refine at_load 31 (by rfl) ?_; refine wpList_loadE rfl rfl (HFl.out.loadCv 2 rfl HOKC.out) rfl ?_)
              | (refine at_store 31 (by rfl) ?_; refine wpList_putCv HFl.out 1 rfl rfl rfl okc_zero HOKC.out rfl rfl ?_; intro w9 h9; have HF9 := hid h9; clear h9))
      exact bodyPost_ret (results_cv2 rfl _ _ _ _ _ _ _ _ _ rfl (HF9.out.get 1 rfl) Tryz.underlying31 rfl info_ctx HOKC.out) rfl ⟨by rw [HO2.out]; rfl, HF9.out.bel⟩
    by_cases hf2 : fl = []
    · subst hf2
      have HO2 := hid (show multiR (t1 :: t2, x1 :: x2, pa, [], []) = (T, X, P, 0, 0) by rw [(HM.good rfl rfl rfl), show sampR [] [] = (0, 0) by decide]; rfl)
      go_wp2_with (first
              | (refine at_load 31 (by rfl) ?_; refine wpList_loadE rfl rfl (HF8.out.loadCv 2 rfl HOKC.out) rfl ?_)
              | (refine at_store 31 (by rfl) ?_; refine wpList_putCv HF8.out 1 rfl rfl rfl okc_zero HOKC.out rfl rfl ?_; intro w9 h9; have HF9 := hid h9; clear h9))
      exact bodyPost_ret (results_cv2 rfl _ _ _ _ _ _ _ _ _ rfl (HF9.out.get 1 rfl) Tryz.underlying31 rfl info_ctx HOKC.out) rfl ⟨by rw [HO2.out]; rfl, HF9.out.bel⟩
    by_cases hf3 : fl = [48]
    · subst hf3
      have HO2 := hid (show multiR (t1 :: t2, x1 :: x2, pa, [], [48]) = (T, X, P, 0, 0) by rw [(HM.good rfl rfl rfl), show sampR [] [48] = (0, 0) by decide]; rfl)
      go_wp2_with (first
              | (refine at_load 31 (by rfl) ?_; refine wpList_loadE rfl rfl (HF8.out.loadCv 2 rfl HOKC.out) rfl ?_)
              | (refine at_store 31 (by rfl) ?_; refine wpList_putCv HF8.out 1 rfl rfl rfl okc_zero HOKC.out rfl rfl ?_; intro w9 h9; have HF9 := hid h9; clear h9))
      exact bodyPost_ret (results_cv2 rfl _ _ _ _ _ _ _ _ _ rfl (HF9.out.get 1 rfl) Tryz.underlying31 rfl info_ctx HOKC.out) rfl ⟨by rw [HO2.out]; rfl, HF9.out.bel⟩
    have HO2 := hid (show multiR (t1 :: t2, x1 :: x2, pa, [], fl) = cxBad 3 by rw [(HM.good rfl rfl rfl), sampR_eq]; unfold flagR sampledR; simp [hf1, hf2, hf3, sfalse, strue])
    have b1 := beqs_ne hf1
    have b2 := beqs_ne hf2
    have b3 := beqs_ne hf3
    clear hf1 hf2 hf3
    go_wp2_with (first
          | (refine at_store 31 (by rfl) ?_; refine wpList_putCv HF8.out 1 (t := zb 16) (x := zb 8) (p := zb 8) (k := 0) rfl rfl rfl okc_zero okc_zero rfl rfl ?_; intro w9 h9; have HF9 := hid h9; clear h9))
    exact bodyPost_ret (results_cv2 rfl _ _ _ _ _ _ _ _ _ rfl (HF9.out.get 1 rfl) Tryz.underlying31 rfl info_ctx okc_zero) rfl ⟨by rw [HO2.out]; rfl, HF9.out.bel⟩
  have HO2 := hid (show multiR (t1 :: t2, x1 :: x2, pa, sa, fl) = cxBad 3 by rw [(HM.good rfl rfl rfl), sampR_eq]; unfold sampledR sfalse strue; simp [ha1, ha2, ha3, ha4, ha5])
  have b1 := beqs_ne ha1
  have b2 := beqs_ne ha2
  have b3 := beqs_ne ha3
  have b4 := beqs_ne ha4
  have b5 := beqs_ne ha5
  clear ha1 ha2 ha3 ha4 ha5
  go_wp2_with (first
      | (refine at_store 31 (by rfl) ?_; refine wpList_putCv HF8.out 1 (t := zb 16) (x := zb 8) (p := zb 8) (k := 0) rfl rfl rfl okc_zero okc_zero rfl rfl ?_; intro w9 h9; have HF9 := hid h9; clear h9))
  exact bodyPost_ret (results_cv2 rfl _ _ _ _ _ _ _ _ _ rfl (HF9.out.get 1 rfl) Tryz.underlying31 rfl info_ctx okc_zero) rfl ⟨by rw [HO2.out]; rfl, HF9.out.bel⟩
set_option maxRecDepth 100000 in
set_option maxHeartbeats 16000000 in
theorem rmulti_none (sa fl : List UInt8) (w : World) :
    Calls Tryz.prog 32 #[Mv ([], [], [], sa, fl)] w fun e w' => e = .returned (cxOut (multiR ([], [], [], sa, fl))) ∧ Below w.heap.size w w' := by
  have hm4 : multiR ([], [], [], sa, fl) = sampledR (zb 16, zb 8, zb 8, 0, 0) (sampR sa fl) := by
    unfold multiR
    rw [if_neg (by unfold halfM; simp)]
    rfl
  have hsp := fun u => rspan45_any [] u (by simp)
  have hpa := fun u => rspan45_any [] u (by simp)
  rw [show spanR [] = (zb 8, 0) from rfl] at hsp hpa
  simp only at hsp hpa
  obtain ⟨X, hX⟩ : ∃ X, zb 8 = X := ⟨_, rfl⟩
  have HXL := hid (show X.length = 8 by rw [← hX]; exact zb_length 8)
  have HPL := HXL
  have HM4 := hid (show multiR ([], [], [], sa, fl) = sampledR (zb 16, X, X, 0, 0) (sampR sa fl) by rw [← hX]; exact hm4)
  rw [hX] at hsp hpa
  clear hm4 hX
  obtain ⟨W1, hW⟩ : ∃ W1, (w.alloc (.cells #[Sv ([]), Sv ([]), Sv ([]), Sv sa, Sv fl] 77)).alloc (.cells #[.int .u8 0, .int .u8 0, .int .u8 0, .int .u8 0, .int .u8 0, .int .u8 0, .int .u8 0, .int .u8 0, .int .u8 0, .int .u8 0, .int .u8 0, .int .u8 0, .int .u8 0, .int .u8 0, .int .u8 0, .int .u8 0, .int .u8 0, .int .u8 0, .int .u8 0, .int .u8 0, .int .u8 0, .int .u8 0, .int .u8 0, .int .u8 0, .int .u8 0, .int .u8 0, .int .u8 0, .int .u8 0, .int .u8 0, .int .u8 0, .int .u8 0, .int .u8 0, .int .i64 0] 31) = W1 := ⟨_, rfl⟩
  have hF : Frm w W1 [(w.heap.size, 77, mc ([], [], [], sa, fl)), (w.heap.size + 1, 31, (cc (zb 16) (zb 8) (zb 8) 0).toArray)] := hW ▸ ((Frm.start w).new 77 #[Sv ([]), Sv ([]), Sv ([]), Sv sa, Sv fl] rfl).new0 31 (n := w.heap.size + 1) (by simp)
  obtain ⟨m0, m1, m2, m3, m4⟩ := hF.mcells 0 rfl
  simp only at m0 m1 m2 m3 m4
  obtain ⟨W2, hW2⟩ : ∃ W2, W1.alloc (.cells #[.int .u8 0, .int .u8 0, .int .u8 0, .int .u8 0, .int .u8 0, .int .u8 0, .int .u8 0, .int .u8 0, .int .u8 0, .int .u8 0, .int .u8 0, .int .u8 0, .int .u8 0, .int .u8 0, .int .u8 0, .int .u8 0, .int .u8 0, .int .u8 0, .int .u8 0, .int .u8 0, .int .u8 0, .int .u8 0, .int .u8 0, .int .u8 0, .int .u8 0, .int .u8 0, .int .u8 0, .int .u8 0, .int .u8 0, .int .u8 0, .int .u8 0, .int .u8 0, .int .i64 0] 31) = W2 := ⟨_, rfl⟩
  have hF2 : Frm w W2 [(w.heap.size, 77, mc ([], [], [], sa, fl)), (w.heap.size + 1, 31, (cc (zb 16) (zb 8) (zb 8) 0).toArray), (W1.heap.size, 31, (cc (zb 16) (zb 8) (zb 8) 0).toArray)] := hW2 ▸ hF.new0 31 rfl
  have HF := hid hF2
  have HW := hid hW
  have HW2 := hid hW2
  clear hF hW hF2 hW2
  unfold Mv
  simp only
  go_enter Tryz.func32, Tryz.ntmps32
  go_upto_region 1 with fail
  rw [HW.out]
  go_upto_region 4 with fail
  rw [HW2.out]
  clear HW HW2 m0 m1 m2 m3 m4
  generalize W1.heap.size = G at HF ⊢
  go_upto_region 9 with (first
      | (refine at_load 9 (by rfl) ?_; refine wpList_loadE rfl rfl (run_load_str (HF.out.cell 0 rfl 0 rfl)) rfl ?_))
  go_upto_region 10 with (first
      | (refine at_load 9 (by rfl) ?_; refine wpList_loadE rfl rfl (run_load_str (HF.out.cell 0 rfl 1 rfl)) rfl ?_)
      | (go_at_call 67; (with_reducible refine (hsp _).mono ?_); rintro e w2 ⟨rfl, hb2⟩; have HF2 := hid ((HF.out.call hb2).new 29 (b8s (zb 8)).toArray rfl); clear hb2)
      | (refine at_store 29 (by rfl) ?_; refine wpList_put8 HF2.out 3 rfl rfl rfl (zb_length _) HXL.out rfl rfl ?_; intro w3 h3; have HF3 := hid h3; clear h3))
  go_upto_region 13 with (first
      | (refine at_load 9 (by rfl) ?_; refine wpList_loadE rfl rfl (run_load_str (HF3.out.cell 0 rfl 2 rfl)) rfl ?_)
      | (go_at_call 67; (with_reducible refine (hpa _).mono ?_); rintro e w4 ⟨rfl, hb4⟩; have HF4 := hid ((HF3.out.call hb4).new 29 (b8s (zb 8)).toArray rfl); clear hb4)
      | (refine at_store 29 (by rfl) ?_; refine wpList_put8 HF4.out 4 rfl rfl rfl (zb_length _) HPL.out rfl rfl ?_; intro w5 h5; have HF5 := hid h5; clear h5))
  go_upto_region 15 with fail
  generalize w2.heap.size = g1 at HF5 ⊢
  generalize w4.heap.size = g2 at HF5 ⊢
  refine wp_region_held_drew (S := fun u => (Instr.loadAt 29 (.pointer (some ⟨g1, 0, none⟩))).run Tryz.prog u = .ok (Av X) u ∧ (Instr.loadAt 29 (.pointer (some ⟨g2, 0, none⟩))).run Tryz.prog u = .ok (Av X) u) (by kernel_rfl) ⟨HF5.out.drew.load8 3 rfl HXL.out, HF5.out.drew.load8 4 rfl HPL.out⟩ (fun hS0 => ?_)
  have HF6 := hid (HF5.out.drew)
  generalize w5.drew = u0 at HF6 hS0 ⊢
  clear HF HF2 HF3 HF4 HF5
  refine held_step (i := 0) (some 66) (v := _) (by rfl) (by kernel_rfl) (by kernel_rfl) (by kernel_rfl) (fun _ _ _ h => h) (fun o ho => by (simp only [List.getElem?_toArray, List.getElem?_cons_zero, Option.some.injEq] at ho; subst ho; exact Or.inl ⟨by rfl, fun u hSu => run_load_of rfl hSu.1⟩)) (by assumption) ?_
  try simp only [Act.put, List.setIfInBounds_toArray, List.set_cons_zero, List.set_cons_succ]
  refine held_step (i := 1) (some 67) (v := _) (by rfl) (by kernel_rfl) (by kernel_rfl) (by kernel_rfl) (fun _ _ _ h => h) (fun o ho => by (simp only [List.getElem?_toArray, List.getElem?_cons_zero, List.getElem?_cons_succ, Option.some.injEq] at ho; subst ho; exact Or.inl ⟨by rfl, fun u hSu => run_load_of rfl hSu.2⟩)) (by assumption) ?_
  try simp only [Act.put, List.setIfInBounds_toArray, List.set_cons_zero, List.set_cons_succ]
  refine held_step (i := 2) (some 68) (v := ?hv3) (by rfl) (by kernel_rfl) (by kernel_rfl) (by kernel_rfl) (fun _ _ _ h => h) ?hy3 (by assumption) ?hr3
  case hy3 => (intro o ho; simp only [List.getElem?_toArray, List.getElem?_cons_zero, List.getElem?_cons_succ, Option.some.injEq] at ho; subst ho; refine Or.inl ⟨by rfl, fun u hSu => ?_⟩; clear hSu; go_simp; with_reducible rfl)
  try simp only [Act.put, List.setIfInBounds_toArray, List.set_cons_zero, List.set_cons_succ]
  have hx1 := run_storeX HF6.out 2 rfl ⟨zb_length 16, zb_length 8, zb_length 8⟩ HXL.out
  obtain ⟨rx, fx⟩ := hx1
  have HF7 := hid fx
  generalize hw7 : u0.setCells G 16 (b8s X) = u1 at HF7 rx
  clear fx hw7
  refine wpAnyH_ready (rs := [3]) (by kernel_rfl) (by simp) ?_
  refine AllReadyH.cons rfl (fun K hK => ?_) AllReadyH.nil
  rw [if_pos (by rfl)]
  unfold Oper.wp
  simp [execOp, Act.eval, rx, Result.andThen]
  refine hK.out _ _ ⟨HF7.out.load8 3 rfl HXL.out, HF7.out.load8 4 rfl HPL.out⟩ (fun hS1 => ?_)
  clear hK rx
  try simp only [Act.put]
  refine held_step (i := 4) (some 69) (v := ?hv4) (by rfl) (by kernel_rfl) (by kernel_rfl) (by kernel_rfl) (fun _ _ _ h => h) ?hy4 (by assumption) ?hr4
  case hy4 => (intro o ho; simp only [List.getElem?_toArray, List.getElem?_cons_zero, List.getElem?_cons_succ, Option.some.injEq] at ho; subst ho; refine Or.inl ⟨by rfl, fun u hSu => ?_⟩; clear hSu; go_simp; with_reducible rfl)
  try simp only [Act.put, List.setIfInBounds_toArray, List.set_cons_zero, List.set_cons_succ]
  obtain ⟨rp, fp⟩ := run_storeP HF7.out 2 rfl ⟨zb_length 16, HXL.out, zb_length 8⟩ HPL.out
  have HF8 := hid fp
  generalize hw8 : u1.setCells G 24 (b8s X) = u2 at HF8 rp
  clear fp hw8
  refine wpAnyH_ready (rs := [5]) (by kernel_rfl) (by simp) ?_
  refine AllReadyH.cons rfl (fun K hK => ?_) AllReadyH.nil
  rw [if_pos (by rfl)]
  unfold Oper.wp
  simp [execOp, Act.eval, rp, Result.andThen]
  refine hK.out _ _ ⟨HF8.out.load8 3 rfl HXL.out, HF8.out.load8 4 rfl HPL.out⟩ (fun hS2 => ?_)
  clear hK rp
  try simp only [Act.put]
  refine wpAnyH_done (by kernel_rfl) ?_ _
  clear hS0 hS1 hS2 HF6 HF7
  have HOKC := hid (show Okc (zb 16) X X from ⟨zb_length 16, HXL.out, HPL.out⟩)
  obtain ⟨e0, e1, e2, e3, e4⟩ := HF8.out.mcells 0 rfl
  simp only at e0 e1 e2 e3 e4
  clear e0 e1 e2
  by_cases ha1 : sa = [48]
  · subst ha1
    by_cases hf1 : fl = [49]
    · subst hf1
      have HO2 := hid (show multiR ([], [], [], [48], [49]) = ((zb 16), X, X, 3, 0) by rw [HM4.out, show sampR [48] [49] = (3, 0) by decide]; rfl)
      go_wp2_with (first
              | (refine at_store 3 (by rfl) ?_; refine wpList_putK HF8.out 2 rfl rfl rfl HOKC.out rfl rfl ?_; intro wk hk; have HFk := hid hk; obtain ⟨f0, f1, f2, f3, f4⟩ := hk.mcells 0 rfl; simp only at f0 f1 f2 f3 f4; clear hk)
              | (refine at_store 3 (by rfl) ?_; refine wpList_putK HFk.out 2 rfl rfl rfl HOKC.out rfl rfl ?_; intro wl hk; have HFl := hid hk; obtain ⟨f0, f1, f2, f3, f4⟩ := hk.mcells 0 rfl; simp only at f0 f1 f2 f3 f4; clear hk)
              | (refine at_load 31 (by rfl) ?_; refine wpList_loadE rfl rfl (HFl.out.loadCv 2 rfl HOKC.out) rfl ?_)
              | (refine at_store 31 (by rfl) ?_; refine wpList_putCv HFl.out 1 rfl rfl rfl okc_zero HOKC.out rfl rfl ?_; intro w9 h9; have HF9 := hid h9; clear h9))
      exact bodyPost_ret (results_cv2 rfl _ _ _ _ _ _ _ _ _ rfl (HF9.out.get 1 rfl) Tryz.underlying31 rfl info_ctx HOKC.out) rfl ⟨by rw [HO2.out]; rfl, HF9.out.bel⟩
    by_cases hf2 : fl = []
    · subst hf2
      have HO2 := hid (show multiR ([], [], [], [48], []) = ((zb 16), X, X, 1, 0) by rw [HM4.out, show sampR [48] [] = (1, 0) by decide]; rfl)
      go_wp2_with (first
              | (refine at_store 3 (by rfl) ?_; refine wpList_putK HF8.out 2 rfl rfl rfl HOKC.out rfl rfl ?_; intro wk hk; have HFk := hid hk; obtain ⟨f0, f1, f2, f3, f4⟩ := hk.mcells 0 rfl; simp only at f0 f1 f2 f3 f4; clear hk)
              | (refine at_load 31 (by rfl) ?_; refine wpList_loadE rfl rfl (HFk.out.loadCv 2 rfl HOKC.out) rfl ?_)
              | (refine at_store 31 (by rfl) ?_; refine wpList_putCv HFk.out 1 rfl rfl rfl okc_zero HOKC.out rfl rfl ?_; intro w9 h9; have HF9 := hid h9; clear h9))
      exact bodyPost_ret (results_cv2 rfl _ _ _ _ _ _ _ _ _ rfl (HF9.out.get 1 rfl) Tryz.underlying31 rfl info_ctx HOKC.out) rfl ⟨by rw [HO2.out]; rfl, HF9.out.bel⟩
    by_cases hf3 : fl = [48]
    · subst hf3
      have HO2 := hid (show multiR ([], [], [], [48], [48]) = ((zb 16), X, X, 1, 0) by rw [HM4.out, show sampR [48] [48] = (1, 0) by decide]; rfl)
      go_wp2_with (first
              | (refine at_store 3 (by rfl) ?_; refine wpList_putK HF8.out 2 rfl rfl rfl HOKC.out rfl rfl ?_; intro wk hk; have HFk := hid hk; obtain ⟨f0, f1, f2, f3, f4⟩ := hk.mcells 0 rfl; simp only at f0 f1 f2 f3 f4; clear hk)
              | (refine at_load 31 (by rfl) ?_; refine wpList_loadE rfl rfl (HFk.out.loadCv 2 rfl HOKC.out) rfl ?_)
              | (refine at_store 31 (by rfl) ?_; refine wpList_putCv HFk.out 1 rfl rfl rfl okc_zero HOKC.out rfl rfl ?_; intro w9 h9; have HF9 := hid h9; clear h9))
      exact bodyPost_ret (results_cv2 rfl _ _ _ _ _ _ _ _ _ rfl (HF9.out.get 1 rfl) Tryz.underlying31 rfl info_ctx HOKC.out) rfl ⟨by rw [HO2.out]; rfl, HF9.out.bel⟩
    have HO2 := hid (show multiR ([], [], [], [48], fl) = cxBad 3 by rw [HM4.out, sampR_eq]; unfold flagR sampledR; simp [hf1, hf2, hf3])
    have b1 := beqs_ne hf1
    have b2 := beqs_ne hf2
    have b3 := beqs_ne hf3
    clear hf1 hf2 hf3
    go_wp2_with (first
          | (refine at_store 3 (by rfl) ?_; refine wpList_putK HF8.out 2 rfl rfl rfl HOKC.out rfl rfl ?_; intro wk hk; have HFk := hid hk; obtain ⟨f0, f1, f2, f3, f4⟩ := hk.mcells 0 rfl; simp only at f0 f1 f2 f3 f4; clear hk)
          | (refine at_store 31 (by rfl) ?_; refine wpList_putCv HFk.out 1 (t := zb 16) (x := zb 8) (p := zb 8) (k := 0) rfl rfl rfl okc_zero okc_zero rfl rfl ?_; intro w9 h9; have HF9 := hid h9; clear h9))
    exact bodyPost_ret (results_cv2 rfl _ _ _ _ _ _ _ _ _ rfl (HF9.out.get 1 rfl) Tryz.underlying31 rfl info_ctx okc_zero) rfl ⟨by rw [HO2.out]; rfl, HF9.out.bel⟩
  by_cases ha2 : sa = [102, 97, 108, 115, 101]
  · subst ha2
    by_cases hf1 : fl = [49]
    · subst hf1
      have HO2 := hid (show multiR ([], [], [], [102, 97, 108, 115, 101], [49]) = ((zb 16), X, X, 3, 0) by rw [HM4.out, show sampR [102, 97, 108, 115, 101] [49] = (3, 0) by decide]; rfl)
      go_wp2_with (first
              | (refine at_store 3 (by rfl) ?_; refine wpList_putK HF8.out 2 rfl rfl rfl HOKC.out rfl rfl ?_; intro wk hk; have HFk := hid hk; obtain ⟨f0, f1, f2, f3, f4⟩ := hk.mcells 0 rfl; simp only at f0 f1 f2 f3 f4; clear hk)
              | (refine at_store 3 (by rfl) ?_; refine wpList_putK HFk.out 2 rfl rfl rfl HOKC.out rfl rfl ?_; intro wl hk; have HFl := hid hk; obtain ⟨f0, f1, f2, f3, f4⟩ := hk.mcells 0 rfl; simp only at f0 f1 f2 f3 f4; clear hk)
              | (refine at_load 31 (by rfl) ?_; refine wpList_loadE rfl rfl (HFl.out.loadCv 2 rfl HOKC.out) rfl ?_)
              | (refine at_store 31 (by rfl) ?_; refine wpList_putCv HFl.out 1 rfl rfl rfl okc_zero HOKC.out rfl rfl ?_; intro w9 h9; have HF9 := hid h9; clear h9))
      exact bodyPost_ret (results_cv2 rfl _ _ _ _ _ _ _ _ _ rfl (HF9.out.get 1 rfl) Tryz.underlying31 rfl info_ctx HOKC.out) rfl ⟨by rw [HO2.out]; rfl, HF9.out.bel⟩
    by_cases hf2 : fl = []
    · subst hf2
      have HO2 := hid (show multiR ([], [], [], [102, 97, 108, 115, 101], []) = ((zb 16), X, X, 1, 0) by rw [HM4.out, show sampR [102, 97, 108, 115, 101] [] = (1, 0) by decide]; rfl)
      go_wp2_with (first
              | (refine at_store 3 (by rfl) ?_; refine wpList_putK HF8.out 2 rfl rfl rfl HOKC.out rfl rfl ?_; intro wk hk; have HFk := hid hk; obtain ⟨f0, f1, f2, f3, f4⟩ := hk.mcells 0 rfl; simp only at f0 f1 f2 f3 f4; clear hk)
              | (refine at_load 31 (by rfl) ?_; refine wpList_loadE rfl rfl (HFk.out.loadCv 2 rfl HOKC.out) rfl ?_)
              | (refine at_store 31 (by rfl) ?_; refine wpList_putCv HFk.out 1 rfl rfl rfl okc_zero HOKC.out rfl rfl ?_; intro w9 h9; have HF9 := hid h9; clear h9))
      exact bodyPost_ret (results_cv2 rfl _ _ _ _ _ _ _ _ _ rfl (HF9.out.get 1 rfl) Tryz.underlying31 rfl info_ctx HOKC.out) rfl ⟨by rw [HO2.out]; rfl, HF9.out.bel⟩
    by_cases hf3 : fl = [48]
    · subst hf3
      have HO2 := hid (show multiR ([], [], [], [102, 97, 108, 115, 101], [48]) = ((zb 16), X, X, 1, 0) by rw [HM4.out, show sampR [102, 97, 108, 115, 101] [48] = (1, 0) by decide]; rfl)
      go_wp2_with (first
              | (refine at_store 3 (by rfl) ?_; refine wpList_putK HF8.out 2 rfl rfl rfl HOKC.out rfl rfl ?_; intro wk hk; have HFk := hid hk; obtain ⟨f0, f1, f2, f3, f4⟩ := hk.mcells 0 rfl; simp only at f0 f1 f2 f3 f4; clear hk)
              | (refine at_load 31 (by rfl) ?_; refine wpList_loadE rfl rfl (HFk.out.loadCv 2 rfl HOKC.out) rfl ?_)
              | (refine at_store 31 (by rfl) ?_; refine wpList_putCv HFk.out 1 rfl rfl rfl okc_zero HOKC.out rfl rfl ?_; intro w9 h9; have HF9 := hid h9; clear h9))
      exact bodyPost_ret (results_cv2 rfl _ _ _ _ _ _ _ _ _ rfl (HF9.out.get 1 rfl) Tryz.underlying31 rfl info_ctx HOKC.out) rfl ⟨by rw [HO2.out]; rfl, HF9.out.bel⟩
    have HO2 := hid (show multiR ([], [], [], [102, 97, 108, 115, 101], fl) = cxBad 3 by rw [HM4.out, sampR_eq]; unfold flagR sampledR; simp [hf1, hf2, hf3, sfalse])
    have b1 := beqs_ne hf1
    have b2 := beqs_ne hf2
    have b3 := beqs_ne hf3
    clear hf1 hf2 hf3
    go_wp2_with (first
          | (refine at_store 3 (by rfl) ?_; refine wpList_putK HF8.out 2 rfl rfl rfl HOKC.out rfl rfl ?_; intro wk hk; have HFk := hid hk; obtain ⟨f0, f1, f2, f3, f4⟩ := hk.mcells 0 rfl; simp only at f0 f1 f2 f3 f4; clear hk)
          | (refine at_store 31 (by rfl) ?_; refine wpList_putCv HFk.out 1 (t := zb 16) (x := zb 8) (p := zb 8) (k := 0) rfl rfl rfl okc_zero okc_zero rfl rfl ?_; intro w9 h9; have HF9 := hid h9; clear h9))
    exact bodyPost_ret (results_cv2 rfl _ _ _ _ _ _ _ _ _ rfl (HF9.out.get 1 rfl) Tryz.underlying31 rfl info_ctx okc_zero) rfl ⟨by rw [HO2.out]; rfl, HF9.out.bel⟩
  by_cases ha3 : sa = [49]
  · subst ha3
    by_cases hf1 : fl = [49]
    · subst hf1
      have HO2 := hid (show multiR ([], [], [], [49], [49]) = ((zb 16), X, X, 3, 0) by rw [HM4.out, show sampR [49] [49] = (3, 0) by decide]; rfl)
      go_wp2_with (first
              | (refine at_store 3 (by rfl) ?_; refine wpList_putK HF8.out 2 rfl rfl rfl HOKC.out rfl rfl ?_; intro wk hk; have HFk := hid hk; obtain ⟨f0, f1, f2, f3, f4⟩ := hk.mcells 0 rfl; simp only at f0 f1 f2 f3 f4; clear hk)
              | (refine at_store 3 (by rfl) ?_; refine wpList_putK HFk.out 2 rfl rfl rfl HOKC.out rfl rfl ?_; intro wl hk; have HFl := hid hk; obtain ⟨f0, f1, f2, f3, f4⟩ := hk.mcells 0 rfl; simp only at f0 f1 f2 f3 f4; clear hk)
              | (refine at_load 31 (by rfl) ?_; refine wpList_loadE rfl rfl (HFl.out.loadCv 2 rfl HOKC.out) rfl ?_)
              | (refine at_store 31 (by rfl) ?_; refine wpList_putCv HFl.out 1 rfl rfl rfl okc_zero HOKC.out rfl rfl ?_; intro w9 h9; have HF9 := hid h9; clear h9))
      exact bodyPost_ret (results_cv2 rfl _ _ _ _ _ _ _ _ _ rfl (HF9.out.get 1 rfl) Tryz.underlying31 rfl info_ctx HOKC.out) rfl ⟨by rw [HO2.out]; rfl, HF9.out.bel⟩
    by_cases hf2 : fl = []
    · subst hf2
      have HO2 := hid (show multiR ([], [], [], [49], []) = ((zb 16), X, X, 2, 0) by rw [HM4.out, show sampR [49] [] = (2, 0) by decide]; rfl)
      go_wp2_with (first
              | (refine at_store 3 (by rfl) ?_; refine wpList_putK HF8.out 2 rfl rfl rfl HOKC.out rfl rfl ?_; intro wk hk; have HFk := hid hk; obtain ⟨f0, f1, f2, f3, f4⟩ := hk.mcells 0 rfl; simp only at f0 f1 f2 f3 f4; clear hk)
              | (refine at_load 31 (by rfl) ?_; refine wpList_loadE rfl rfl (HFk.out.loadCv 2 rfl HOKC.out) rfl ?_)
              | (refine at_store 31 (by rfl) ?_; refine wpList_putCv HFk.out 1 rfl rfl rfl okc_zero HOKC.out rfl rfl ?_; intro w9 h9; have HF9 := hid h9; clear h9))
      exact bodyPost_ret (results_cv2 rfl _ _ _ _ _ _ _ _ _ rfl (HF9.out.get 1 rfl) Tryz.underlying31 rfl info_ctx HOKC.out) rfl ⟨by rw [HO2.out]; rfl, HF9.out.bel⟩
    by_cases hf3 : fl = [48]
    · subst hf3
      have HO2 := hid (show multiR ([], [], [], [49], [48]) = ((zb 16), X, X, 2, 0) by rw [HM4.out, show sampR [49] [48] = (2, 0) by decide]; rfl)
      go_wp2_with (first
              | (refine at_store 3 (by rfl) ?_; refine wpList_putK HF8.out 2 rfl rfl rfl HOKC.out rfl rfl ?_; intro wk hk; have HFk := hid hk; obtain ⟨f0, f1, f2, f3, f4⟩ := hk.mcells 0 rfl; simp only at f0 f1 f2 f3 f4; clear hk)
              | (refine at_load 31 (by rfl) ?_; refine wpList_loadE rfl rfl (HFk.out.loadCv 2 rfl HOKC.out) rfl ?_)
              | (refine at_store 31 (by rfl) ?_; refine wpList_putCv HFk.out 1 rfl rfl rfl okc_zero HOKC.out rfl rfl ?_; intro w9 h9; have HF9 := hid h9; clear h9))
      exact bodyPost_ret (results_cv2 rfl _ _ _ _ _ _ _ _ _ rfl (HF9.out.get 1 rfl) Tryz.underlying31 rfl info_ctx HOKC.out) rfl ⟨by rw [HO2.out]; rfl, HF9.out.bel⟩
    have HO2 := hid (show multiR ([], [], [], [49], fl) = cxBad 3 by rw [HM4.out, sampR_eq]; unfold flagR sampledR; simp [hf1, hf2, hf3, sfalse])
    have b1 := beqs_ne hf1
    have b2 := beqs_ne hf2
    have b3 := beqs_ne hf3
    clear hf1 hf2 hf3
    go_wp2_with (first
          | (refine at_store 3 (by rfl) ?_; refine wpList_putK HF8.out 2 rfl rfl rfl HOKC.out rfl rfl ?_; intro wk hk; have HFk := hid hk; obtain ⟨f0, f1, f2, f3, f4⟩ := hk.mcells 0 rfl; simp only at f0 f1 f2 f3 f4; clear hk)
          | (refine at_store 31 (by rfl) ?_; refine wpList_putCv HFk.out 1 (t := zb 16) (x := zb 8) (p := zb 8) (k := 0) rfl rfl rfl okc_zero okc_zero rfl rfl ?_; intro w9 h9; have HF9 := hid h9; clear h9))
    exact bodyPost_ret (results_cv2 rfl _ _ _ _ _ _ _ _ _ rfl (HF9.out.get 1 rfl) Tryz.underlying31 rfl info_ctx okc_zero) rfl ⟨by rw [HO2.out]; rfl, HF9.out.bel⟩
  by_cases ha4 : sa = [116, 114, 117, 101]
  · subst ha4
    by_cases hf1 : fl = [49]
    · subst hf1
      have HO2 := hid (show multiR ([], [], [], [116, 114, 117, 101], [49]) = ((zb 16), X, X, 3, 0) by rw [HM4.out, show sampR [116, 114, 117, 101] [49] = (3, 0) by decide]; rfl)
      go_wp2_with (first
              | (refine at_store 3 (by rfl) ?_; refine wpList_putK HF8.out 2 rfl rfl rfl HOKC.out rfl rfl ?_; intro wk hk; have HFk := hid hk; obtain ⟨f0, f1, f2, f3, f4⟩ := hk.mcells 0 rfl; simp only at f0 f1 f2 f3 f4; clear hk)
              | (refine at_store 3 (by rfl) ?_; refine wpList_putK HFk.out 2 rfl rfl rfl HOKC.out rfl rfl ?_; intro wl hk; have HFl := hid hk; obtain ⟨f0, f1, f2, f3, f4⟩ := hk.mcells 0 rfl; simp only at f0 f1 f2 f3 f4; clear hk)
              | (refine at_load 31 (by rfl) ?_; refine wpList_loadE rfl rfl (HFl.out.loadCv 2 rfl HOKC.out) rfl ?_)
              | (refine at_store 31 (by rfl) ?_; refine wpList_putCv HFl.out 1 rfl rfl rfl okc_zero HOKC.out rfl rfl ?_; intro w9 h9; have HF9 := hid h9; clear h9))
      exact bodyPost_ret (results_cv2 rfl _ _ _ _ _ _ _ _ _ rfl (HF9.out.get 1 rfl) Tryz.underlying31 rfl info_ctx HOKC.out) rfl ⟨by rw [HO2.out]; rfl, HF9.out.bel⟩
    by_cases hf2 : fl = []
    · subst hf2
      have HO2 := hid (show multiR ([], [], [], [116, 114, 117, 101], []) = ((zb 16), X, X, 2, 0) by rw [HM4.out, show sampR [116, 114, 117, 101] [] = (2, 0) by decide]; rfl)
      go_wp2_with (first
              | (refine at_store 3 (by rfl) ?_; refine wpList_putK HF8.out 2 rfl rfl rfl HOKC.out rfl rfl ?_; intro wk hk; have HFk := hid hk; obtain ⟨f0, f1, f2, f3, f4⟩ := hk.mcells 0 rfl; simp only at f0 f1 f2 f3 f4; clear hk)
              | (refine at_load 31 (by rfl) ?_; refine wpList_loadE rfl rfl (HFk.out.loadCv 2 rfl HOKC.out) rfl ?_)
              | (refine at_store 31 (by rfl) ?_; refine wpList_putCv HFk.out 1 rfl rfl rfl okc_zero HOKC.out rfl rfl ?_; intro w9 h9; have HF9 := hid h9; clear h9))
      exact bodyPost_ret (results_cv2 rfl _ _ _ _ _ _ _ _ _ rfl (HF9.out.get 1 rfl) Tryz.underlying31 rfl info_ctx HOKC.out) rfl ⟨by rw [HO2.out]; rfl, HF9.out.bel⟩
    by_cases hf3 : fl = [48]
    · subst hf3
      have HO2 := hid (show multiR ([], [], [], [116, 114, 117, 101], [48]) = ((zb 16), X, X, 2, 0) by rw [HM4.out, show sampR [116, 114, 117, 101] [48] = (2, 0) by decide]; rfl)
      go_wp2_with (first
              | (refine at_store 3 (by rfl) ?_; refine wpList_putK HF8.out 2 rfl rfl rfl HOKC.out rfl rfl ?_; intro wk hk; have HFk := hid hk; obtain ⟨f0, f1, f2, f3, f4⟩ := hk.mcells 0 rfl; simp only at f0 f1 f2 f3 f4; clear hk)
              | (refine at_load 31 (by rfl) ?_; refine wpList_loadE rfl rfl (HFk.out.loadCv 2 rfl HOKC.out) rfl ?_)
              | (refine at_store 31 (by rfl) ?_; refine wpList_putCv HFk.out 1 rfl rfl rfl okc_zero HOKC.out rfl rfl ?_; intro w9 h9; have HF9 := hid h9; clear h9))
      exact bodyPost_ret (results_cv2 rfl _ _ _ _ _ _ _ _ _ rfl (HF9.out.get 1 rfl) Tryz.underlying31 rfl info_ctx HOKC.out) rfl ⟨by rw [HO2.out]; rfl, HF9.out.bel⟩
    have HO2 := hid (show multiR ([], [], [], [116, 114, 117, 101], fl) = cxBad 3 by rw [HM4.out, sampR_eq]; unfold flagR sampledR; simp [hf1, hf2, hf3, sfalse, strue])
    have b1 := beqs_ne hf1
    have b2 := beqs_ne hf2
    have b3 := beqs_ne hf3
    clear hf1 hf2 hf3
    go_wp2_with (first
          | (refine at_store 3 (by rfl) ?_; refine wpList_putK HF8.out 2 rfl rfl rfl HOKC.out rfl rfl ?_; intro wk hk; have HFk := hid hk; obtain ⟨f0, f1, f2, f3, f4⟩ := hk.mcells 0 rfl; simp only at f0 f1 f2 f3 f4; clear hk)
          | (refine at_store 31 (by rfl) ?_; refine wpList_putCv HFk.out 1 (t := zb 16) (x := zb 8) (p := zb 8) (k := 0) rfl rfl rfl okc_zero okc_zero rfl rfl ?_; intro w9 h9; have HF9 := hid h9; clear h9))
    exact bodyPost_ret (results_cv2 rfl _ _ _ _ _ _ _ _ _ rfl (HF9.out.get 1 rfl) Tryz.underlying31 rfl info_ctx okc_zero) rfl ⟨by rw [HO2.out]; rfl, HF9.out.bel⟩
  by_cases ha5 : sa = []
  · subst ha5
    by_cases hf1 : fl = [49]
    · subst hf1
      have HO2 := hid (show multiR ([], [], [], [], [49]) = ((zb 16), X, X, 3, 0) by rw [HM4.out, show sampR [] [49] = (3, 0) by decide]; rfl)
      go_wp2_with (first
              | (refine at_store 3 (by rfl) ?_; refine wpList_putK HF8.out 2 rfl rfl rfl HOKC.out rfl rfl ?_; intro wl hk; have HFl := hid hk; obtain ⟨f0, f1, f2, f3, f4⟩ := hk.mcells 0 rfl; simp only at f0 f1 f2 f3 f4; clear hk)
              | (refine at_load 31 (by rfl) ?_; refine wpList_loadE rfl rfl (HFl.out.loadCv 2 rfl HOKC.out) rfl ?_)
              | (refine at_store 31 (by rfl) ?_; refine wpList_putCv HFl.out 1 rfl rfl rfl okc_zero HOKC.out rfl rfl ?_; intro w9 h9; have HF9 := hid h9; clear h9))
      exact bodyPost_ret (results_cv2 rfl _ _ _ _ _ _ _ _ _ rfl (HF9.out.get 1 rfl) Tryz.underlying31 rfl info_ctx HOKC.out) rfl ⟨by rw [HO2.out]; rfl, HF9.out.bel⟩
    by_cases hf2 : fl = []
    · subst hf2
      have HO2 := hid (show multiR ([], [], [], [], []) = ((zb 16), X, X, 0, 0) by rw [HM4.out, show sampR [] [] = (0, 0) by decide]; rfl)
      go_wp2_with (first
              | (refine at_load 31 (by rfl) ?_; refine wpList_loadE rfl rfl (HF8.out.loadCv 2 rfl HOKC.out) rfl ?_)
              | (refine at_store 31 (by rfl) ?_; refine wpList_putCv HF8.out 1 rfl rfl rfl okc_zero HOKC.out rfl rfl ?_; intro w9 h9; have HF9 := hid h9; clear h9))
      exact bodyPost_ret (results_cv2 rfl _ _ _ _ _ _ _ _ _ rfl (HF9.out.get 1 rfl) Tryz.underlying31 rfl info_ctx HOKC.out) rfl ⟨by rw [HO2.out]; rfl, HF9.out.bel⟩
    by_cases hf3 : fl = [48]
    · subst hf3
      have HO2 := hid (show multiR ([], [], [], [], [48]) = ((zb 16), X, X, 0, 0) by rw [HM4.out, show sampR [] [48] = (0, 0) by decide]; rfl)
      go_wp2_with (first
              | (refine at_load 31 (by rfl) ?_; refine wpList_loadE rfl rfl (HF8.out.loadCv 2 rfl HOKC.out) rfl ?_)
              | (refine at_store 31 (by rfl) ?_; refine wpList_putCv HF8.out 1 rfl rfl rfl okc_zero HOKC.out rfl rfl ?_; intro w9 h9; have HF9 := hid h9; clear h9))
      exact bodyPost_ret (results_cv2 rfl _ _ _ _ _ _ _ _ _ rfl (HF9.out.get 1 rfl) Tryz.underlying31 rfl info_ctx HOKC.out) rfl ⟨by rw [HO2.out]; rfl, HF9.out.bel⟩
    have HO2 := hid (show multiR ([], [], [], [], fl) = cxBad 3 by rw [HM4.out, sampR_eq]; unfold flagR sampledR; simp [hf1, hf2, hf3, sfalse, strue])
    have b1 := beqs_ne hf1
    have b2 := beqs_ne hf2
    have b3 := beqs_ne hf3
    clear hf1 hf2 hf3
    go_wp2_with (first
          | (refine at_store 31 (by rfl) ?_; refine wpList_putCv HF8.out 1 (t := zb 16) (x := zb 8) (p := zb 8) (k := 0) rfl rfl rfl okc_zero okc_zero rfl rfl ?_; intro w9 h9; have HF9 := hid h9; clear h9))
    exact bodyPost_ret (results_cv2 rfl _ _ _ _ _ _ _ _ _ rfl (HF9.out.get 1 rfl) Tryz.underlying31 rfl info_ctx okc_zero) rfl ⟨by rw [HO2.out]; rfl, HF9.out.bel⟩
  have HO2 := hid (show multiR ([], [], [], sa, fl) = cxBad 3 by rw [HM4.out, sampR_eq]; unfold sampledR sfalse strue; simp [ha1, ha2, ha3, ha4, ha5])
  have b1 := beqs_ne ha1
  have b2 := beqs_ne ha2
  have b3 := beqs_ne ha3
  have b4 := beqs_ne ha4
  have b5 := beqs_ne ha5
  clear ha1 ha2 ha3 ha4 ha5
  go_wp2_with (first
      | (refine at_store 31 (by rfl) ?_; refine wpList_putCv HF8.out 1 (t := zb 16) (x := zb 8) (p := zb 8) (k := 0) rfl rfl rfl okc_zero okc_zero rfl rfl ?_; intro w9 h9; have HF9 := hid h9; clear h9))
  exact bodyPost_ret (results_cv2 rfl _ _ _ _ _ _ _ _ _ rfl (HF9.out.get 1 rfl) Tryz.underlying31 rfl info_ctx okc_zero) rfl ⟨by rw [HO2.out]; rfl, HF9.out.bel⟩
theorem rreadmulti_any (m : Mu) (w : World) (hm : shortM m) :
    Calls Tryz.prog 32 #[Mv m] w fun e w' => e = .returned (cxOut (multiR m)) ∧ Below w.heap.size w w' := by
  by_cases hh : halfM m
  · exact rmulti_half m w hh hm
  · obtain ⟨tr, sp, pa, sa, fl⟩ := m
    unfold halfM at hh
    cases tr with
    | nil =>
      have : ([] : List UInt8) = [] ∧ sp = [] ∧ pa = [] := Classical.byContradiction fun q => hh ⟨.inl rfl, q⟩
      obtain ⟨_, rfl, rfl⟩ := this
      exact rmulti_none sa fl w
    | cons t1 t2 =>
      cases sp with
      | nil => exact absurd ⟨.inr rfl, by simp⟩ hh
      | cons x1 x2 => exact rmulti_both t1 x1 t2 x2 pa sa fl w hm
end Go.Proofs.YtgfdmdikiickpaaGreatDoor
