/-
  The laws of chapter 43.
-/
import Derived.Test.YtdjbgojdkaipfaaCtx
import Derived.Test.YtdjbgojdkaipfaaParentRefG
namespace Go.Proofs.Ytdjbgojdkaipfaa
open Go.RowKit

theorem readH_len (s : List UInt8) : (readH s).2.1.length = 16 ∧ (readH s).2.2.1.length = 8 ∧ 0 ≤ (readH s).2.2.2.1 ∧ (readH s).2.2.2.1 ≤ 255 := by
  have hz : (hBad 0).2.1.length = 16 ∧ (hBad 0).2.2.1.length = 8 ∧ 0 ≤ (hBad 0).2.2.2.1 ∧ (hBad 0).2.2.2.1 ≤ 255 := by decide
  have b := oneV_bd (pF s)
  unfold readH
  (repeat' split) <;> first | exact hz | skip
  · exact ⟨traceT_length _, spanT_length _, by show 0 ≤ oneV (pF s) % 2; omega, by show oneV (pF s) % 2 ≤ 255; omega⟩
  · exact ⟨traceT_length _, spanT_length _, b.1, b.2⟩
theorem hexEnc_two (b : UInt8) : (hexEnc [b]).length = 2 := by rw [hexEnc_length]; rfl
theorem readH_text (t x : List UInt8) (f : Int) (ht : t.length = 16) (hx : x.length = 8) (f0 : 0 ≤ f) (f1 : f ≤ 255) (hm : mayB t x = true) : readH (textH t x f) = (0, t, x, f, 0) := by
  have hs : textH t x f = [48, 48, 45] ++ hexEnc t ++ [45] ++ hexEnc x ++ [45] ++ hexEnc [bt f] := if_pos hm
  have lE : (hexEnc t).length = 32 := by rw [hexEnc_length, ht]
  have lD : (hexEnc x).length = 16 := by rw [hexEnc_length, hx]
  have lG := hexEnc_two (bt f)
  have hE := hexDec_enc t
  have hD := hexDec_enc x
  have hG := hexDec_enc [bt f]
  generalize hexEnc t = E at *
  generalize hexEnc x = D at *
  generalize hexEnc [bt f] = G at *
  have htz : t ≠ zb 16 ∧ x ≠ zb 8 := by
    simp only [mayB, Bool.and_eq_true, Bool.not_eq_true', beq_eq_false_iff_ne] at hm
    exact hm
  obtain ⟨s, rfl⟩ : ∃ s, s = textH t x f := ⟨_, rfl⟩
  rw [hs]
  clear hs
  have hlen : ([48, 48, 45] ++ E ++ [45] ++ D ++ [45] ++ G).length = 55 := by simp [lE, lD, lG]
  have e35 : E ++ ([45] ++ D ++ [45] ++ G) = E ++ 45 :: (D ++ 45 :: G) := by simp
  have hV : pV ([48, 48, 45] ++ E ++ [45] ++ D ++ [45] ++ G) = [48, 48] := by simp [pV]
  have hT : pT ([48, 48, 45] ++ E ++ [45] ++ D ++ [45] ++ G) = E := by
    unfold pT
    have : List.drop 3 ([48, 48, 45] ++ E ++ [45] ++ D ++ [45] ++ G) = E ++ ([45] ++ D ++ [45] ++ G) := by simp
    rw [this, List.take_append_of_le_length (by omega), List.take_of_length_le (by omega)]
  have d36 : List.drop 36 ([48, 48, 45] ++ E ++ [45] ++ D ++ [45] ++ G) = D ++ ([45] ++ G) := by
    have : [48, 48, 45] ++ E ++ [45] ++ D ++ [45] ++ G = ([48, 48, 45] ++ E ++ [45]) ++ (D ++ ([45] ++ G)) := by simp
    rw [this, List.drop_append_of_le_length (by simp [lE]), List.drop_of_length_le (by simp [lE])]; rfl
  have hX : pX ([48, 48, 45] ++ E ++ [45] ++ D ++ [45] ++ G) = D := by
    unfold pX
    rw [d36, List.take_append_of_le_length (by omega), List.take_of_length_le (by omega)]
  have d53 : List.drop 53 ([48, 48, 45] ++ E ++ [45] ++ D ++ [45] ++ G) = G := by
    rw [List.drop_append_of_le_length (by simp [lE, lD]), List.drop_of_length_le (by simp [lE, lD])]; rfl
  have hF : pF ([48, 48, 45] ++ E ++ [45] ++ D ++ [45] ++ G) = G := by
    unfold pF
    rw [d53, List.take_of_length_le (by omega)]
  have b2 : byteAt ([48, 48, 45] ++ E ++ [45] ++ D ++ [45] ++ G) 2 = 45 := by simp [byteAt]
  have b35 : byteAt ([48, 48, 45] ++ E ++ [45] ++ D ++ [45] ++ G) 35 = 45 := by
    have : [48, 48, 45] ++ E ++ [45] ++ D ++ [45] ++ G = ([48, 48, 45] ++ E) ++ ([45] ++ D ++ [45] ++ G) := by simp
    rw [this, byteAt_app_right _ _ _ (by simp [lE])]
    simp [lE, byteAt]
  have b52 : byteAt ([48, 48, 45] ++ E ++ [45] ++ D ++ [45] ++ G) 52 = 45 := by
    have : [48, 48, 45] ++ E ++ [45] ++ D ++ [45] ++ G = ([48, 48, 45] ++ E ++ [45] ++ D) ++ ([45] ++ G) := by simp
    rw [this, byteAt_app_right _ _ _ (by simp [lE, lD])]
    simp [lE, lD, byteAt]
  generalize [48, 48, 45] ++ E ++ [45] ++ D ++ [45] ++ G = S at *
  have hsp : splitOk S = true := by unfold splitOk; exact decide_eq_true ⟨by omega, b2, b35, b52⟩
  have v1 : oneOk [48, 48] = true := by decide
  have v2 : oneV [48, 48] = 0 := by decide
  have g1 : oneOk G = true := by unfold oneOk; rw [hG]; rfl
  have g2 : oneV G = f := by unfold oneV; rw [hG]; exact bi_bt f f0 f1
  have tc : traceC E = 0 := by
    unfold traceC; rw [hE]
    simp only [lE, true_or, if_true, ht]
    rw [if_neg (by simpa [zb] using htz.1)]
  have tt : traceT E = t := by
    unfold traceT; rw [hE]
    simp only [lE, true_or, if_true, ht]
    rfl
  have xc : spanC D = 0 := by
    unfold spanC; rw [hD]
    simp only [lD, if_true]
    rw [if_neg htz.2]
  have xt : spanT D = x := by
    unfold spanT; rw [hD]
    simp only [lD, if_true]
  unfold readH
  rw [if_pos hsp, hV, hF, hT, hX, if_pos ⟨v1, g1⟩]
  rw [if_neg (by unfold verBad; rw [hV, v2, hlen]; simp), if_neg (by rw [tc, xc]; simp), if_pos ⟨tc, xc⟩, v2, tt, xt, g2]
  rfl
def pT0 : List UInt8 := [10, 247, 101, 25, 22, 205, 67, 221, 132, 72, 235, 33, 28, 128, 49, 156]
def pX0 : List UInt8 := [183, 173, 107, 113, 105, 32, 51, 49]
def s0 : List UInt8 := [48, 48, 45] ++ hexEnc pT0 ++ [45] ++ hexEnc pX0 ++ [45, 48, 49]
theorem s0_lit : s0 = [48, 48, 45, 48, 97, 102, 55, 54, 53, 49, 57, 49, 54, 99, 100, 52, 51, 100, 100, 56, 52, 52, 56, 101, 98, 50, 49, 49, 99, 56, 48, 51, 49, 57, 99, 45, 98, 55, 97, 100, 54, 98, 55, 49, 54, 57, 50, 48, 51, 51, 51, 49, 45, 48, 49] := by decide +kernel
theorem s0_text : textH pT0 pX0 1 = s0 := by decide +kernel
def s1 : List UInt8 := s0 ++ [45, 120]
def s2 : List UInt8 := 48 :: 49 :: ((s0.drop 2).take 51 ++ [102, 102, 45, 120])
def s3 : List UInt8 := 102 :: 102 :: s0.drop 2
theorem h0_read : hdrOut (readH s0) = .tuple #[Hv 0 pT0 pX0 1, .int .i64 0] := by
  rw [show readH s0 = (0, pT0, pX0, 1, 0) by decide +kernel]; rfl
theorem h1_read : hdrOut (readH s1) = .tuple #[Hv 0 (zb 16) (zb 8) 0, .int .i64 15] := by
  rw [show readH s1 = hBad 15 by decide +kernel]; rfl
theorem h2_read : hdrOut (readH s2) = .tuple #[Hv 1 pT0 pX0 1, .int .i64 0] := by
  rw [show readH s2 = (1, pT0, pX0, 1, 0) by decide +kernel]; rfl
theorem h3_read : hdrOut (readH s3) = .tuple #[Hv 0 (zb 16) (zb 8) 0, .int .i64 15] := by
  rw [show readH s3 = hBad 15 by decide +kernel]; rfl
set_option maxRecDepth 100000 in
set_option maxHeartbeats 4000000 in
theorem pworks_any (w : World) :
    Calls Try.prog 43 #[] w fun e w' => e = .returned (.bool true) ∧ Below w.heap.size w w' := by
  have l0 : s0.length ≤ 60 := by decide +kernel
  have l1 : (List.take 51 (List.drop 2 s0)).length ≤ 60 := by decide +kernel
  have l2 : (List.drop 2 s0).length ≤ 60 := by decide +kernel
  have q53 : (53 : Int) ≤ (s0.length : Int) := by decide +kernel
  have q2 : (2 : Int) ≤ (s0.length : Int) := by decide +kernel
  go_enter Try.func43, Try.ntmps43
  go_wp2_with fail
  rw [← s0_lit]
  refine (pread_any s0 _ (by decide)).mono ?_; rintro e w1 ⟨rfl, hb1⟩
  rw [h0_read]
  have HB1 := hid hb1
  clear hb1
  go_wp2_with (refine wpList_store_hv rfl 58 (.tmp 2) (.tmp 13) rfl w1.heap.size _ 0 1 0 0 pT0 pX0 (zb 16) (zb 8) rfl rfl (new_hv w1 _) info_hdr rfl rfl (zb_length _) (zb_length _) ?_; intro w2 hw2 hN2; have HB2 := hid (HB1.out.trans ((stored_new hw2).mono HB1.out.size)); have HN2 := hid hN2; clear hw2 hN2)
  refine (pread_any s1 _ (by decide +kernel)).mono ?_; rintro e w3 ⟨rfl, hb3⟩
  rw [h1_read]
  have HB3 := hid (HB2.out.trans (hb3.mono HB2.out.size))
  have HN3 := hid (HN2.out.below hb3 HN2.out.lt)
  clear hb3 HB2 HN2
  go_wp2_with (refine wpList_store_hv rfl 58 (.tmp 4) (.tmp 19) rfl w3.heap.size _ 0 0 0 0 (zb 16) (zb 8) (zb 16) (zb 8) rfl rfl (new_hv w3 _) info_hdr (zb_length _) (zb_length _) (zb_length _) (zb_length _) ?_; intro w4 hw4 hN4; have HB4 := hid (HB3.out.trans ((stored_new hw4).mono HB3.out.size)); have HN4 := hid (HN3.out.below (stored_new hw4) HN3.out.lt); clear hw4 hN4)
  refine (pread_any s2 _ (by decide +kernel)).mono ?_; rintro e w5 ⟨rfl, hb5⟩
  rw [h2_read]
  have HB5 := hid (HB4.out.trans (hb5.mono HB4.out.size))
  have HN5 := hid (HN4.out.below hb5 HN4.out.lt)
  clear hb5 HB4 HN4
  go_wp2_with (refine wpList_store_hv rfl 58 (.tmp 6) (.tmp 27) rfl w5.heap.size _ 1 1 0 0 pT0 pX0 (zb 16) (zb 8) rfl rfl (new_hv w5 _) info_hdr rfl rfl (zb_length _) (zb_length _) ?_; intro w6 hw6 hM6; have HB6 := hid (HB5.out.trans ((stored_new hw6).mono HB5.out.size)); have HN6 := hid (HN5.out.below (stored_new hw6) HN5.out.lt); have HM6 := hid hM6; clear hw6 hM6)
  refine (pread_any s3 _ (by decide +kernel)).mono ?_; rintro e w7 ⟨rfl, hb7⟩
  rw [h3_read]
  have HB7 := hid (HB6.out.trans (hb7.mono HB6.out.size))
  have HN7 := hid (HN6.out.below hb7 HN6.out.lt)
  have HM7 := hid (HM6.out.below hb7 HM6.out.lt)
  clear hb7 HB6 HN6 HM6
  go_wp2_with (first
    | (refine wpList_store_hv rfl 58 (.tmp 8) (.tmp 34) rfl w7.heap.size _ 0 0 0 0 (zb 16) (zb 8) (zb 16) (zb 8) rfl rfl (new_hv w7 _) info_hdr (zb_length _) (zb_length _) (zb_length _) (zb_length _) ?_; intro w8 hw8 hN8; have HB8 := hid (HB7.out.trans ((stored_new hw8).mono HB7.out.size)); have HN8 := hid (HN7.out.below (stored_new hw8) HN7.out.lt); have HM8 := hid (HM7.out.below (stored_new hw8) HM7.out.lt); have c25 : w8.cell? ⟨w1.heap.size, 25, none⟩ = some (.int .u8 1) := (HN8.out.cell 25).trans (hc_cells (v := 0) (f := 1) rfl rfl).2; clear hw8 hN8)
    | (refine wpList_load_hvW (by rfl) 58 (.tmp 2) rfl w1.heap.size _ _ 0 1 pT0 pX0 rfl HN8.out Try.underlying58 rfl info_hdr rfl rfl ?_))
  refine (ptext_any 0 1 pT0 pX0 _ rfl rfl (by decide) (by decide)).mono ?_; rintro e w9 ⟨rfl, hb9⟩
  rw [s0_text]
  have HB9 := hid (HB8.out.trans (hb9.mono HB8.out.size))
  have HN9 := hid (HN8.out.below hb9 HN8.out.lt)
  have HM9 := hid (HM8.out.below hb9 HM8.out.lt)
  have d0 : w9.cell? ⟨w5.heap.size, 0, none⟩ = some (.int .u8 1) := (HM9.out.cell 0).trans (hc_cells (v := 1) (f := 1) rfl rfl).1
  have d25 : w9.cell? ⟨w5.heap.size, 25, none⟩ = some (.int .u8 1) := (HM9.out.cell 25).trans (hc_cells (v := 1) (f := 1) rfl rfl).2
  clear hb9 HB8 HN8 HM8 HM9 c25
  go_wp2_with (refine wpList_load_hvW (by rfl) 58 (.tmp 2) rfl w1.heap.size _ _ 0 1 pT0 pX0 rfl HN9.out Try.underlying58 rfl info_hdr rfl rfl ?_)
  refine (pctx_any 0 1 pT0 pX0 _ rfl rfl (by decide) (by decide)).mono ?_; rintro e w10 ⟨rfl, hb10⟩
  have HB10 := hid (HB9.out.trans (hb10.mono HB9.out.size))
  have hfk := fun u => run_field_keep u pT0 pX0 (zb 8) 2 rfl rfl (zb_length _)
  clear hb10 HB9 HN9 d0 d25
  go_wp2_with (refine wpList_buildW (by rfl) 69 _ rfl [(3, .int .i64 3)] _ (by simp [Act.eval]) built_ckeep ?_; change wpList _ _ _ _ (Act.put _ _ (Cv (zb 16) (zb 8) (zb 8) 3)) _)
  refine (pof_any (zb 16) (zb 8) (zb 8) 3 _ (zb_length _) (zb_length _) (zb_length _)).mono ?_; rintro e w11 ⟨rfl, hb11⟩
  rw [show keepF 3 = 1 from rfl]
  have HB11 := hid (HB10.out.trans (hb11.mono HB10.out.size))
  have hff := fun u => run_field_flags u (zb 16) (zb 8) 0 1 (zb_length _) (zb_length _)
  clear hb11 HB10 hfk
  go_wp2_with (refine wpList_buildW (by rfl) 58 _ rfl [] _ (by rfl) built_hzero ?_; change wpList _ _ _ _ (Act.put _ _ (Hv 0 (zb 16) (zb 8) 0)) _)
  refine (pmay_any 0 0 (zb 16) (zb 8) _ (zb_length _) (zb_length _)).mono ?_; rintro e w12 ⟨rfl, hb12⟩
  rw [show mayB (zb 16) (zb 8) = false from rfl]
  have HB12 := hid (HB11.out.trans (hb12.mono HB11.out.size))
  clear hb12 HB11 hff
  go_wp2_with (refine wpList_buildW (by rfl) 58 _ rfl [] _ (by rfl) built_hzero ?_; change wpList _ _ _ _ (Act.put _ _ (Hv 0 (zb 16) (zb 8) 0)) _)
  refine (ptext_any 0 0 (zb 16) (zb 8) _ (zb_length _) (zb_length _) (by decide) (by decide)).mono ?_; rintro e w13 ⟨rfl, hb13⟩
  rw [show textH (zb 16) (zb 8) 0 = [] from rfl]
  have HB13 := hid (HB12.out.trans (hb13.mono HB12.out.size))
  clear hb13 HB12
  go_wp2_with fail
  go_ret
  exact ⟨rfl, HB13.out⟩
set_option maxRecDepth 100000 in
set_option maxHeartbeats 4000000 in
theorem parentReads_any (s : List UInt8) (w : World) (hs : s.length ≤ 140737488355328) :
    Calls Try.prog 8 #[Sv s] w fun e w' => e = .returned (.bool true) ∧ Below w.heap.size w w' := by
  obtain ⟨ht, hx, _, _⟩ := readH_len s
  have HR := hid (show hdrOut (readH s) = .tuple #[Hv (readH s).1 (readH s).2.1 (readH s).2.2.1 (readH s).2.2.2.1, .int .i64 (readH s).2.2.2.2] from rfl)
  generalize (readH s).1 = v at *
  generalize (readH s).2.1 = t at *
  generalize (readH s).2.2.1 = x at *
  generalize (readH s).2.2.2.1 = f at *
  generalize (readH s).2.2.2.2 = k at *
  have HT := hid ht
  have HX := hid hx
  have heq := fun u => run_eq_rhv u v f v f t x t x ht hx ht hx
  simp only [rhvq_self] at heq
  clear ht hx
  go_enter Try.func8, Try.ntmps8
  go_wp2_with fail
  refine (pread_any s _ hs).mono ?_; rintro e w1 ⟨rfl, hb1⟩
  rw [HR.out]
  have HB1 := hid hb1
  clear hb1
  go_wp2_with (refine wpList_store_hv rfl 58 (.tmp 3) (.tmp 10) rfl w1.heap.size _ v f 0 0 t x (zb 16) (zb 8) rfl rfl (new_hv w1 _) info_hdr HT.out HX.out (zb_length _) (zb_length _) ?_; intro w2 hw2 hN2; have HB2 := hid (HB1.out.trans ((stored_new hw2).mono HB1.out.size)); have HN2 := hid hN2; clear hw2 hN2)
  refine (rhread_any s _ hs).mono ?_; rintro e w3 ⟨rfl, hb3⟩
  rw [HR.out]
  have HB3 := hid (HB2.out.trans (hb3.mono HB2.out.size))
  have HN3 := hid (HN2.out.below hb3 HN2.out.lt)
  clear hb3 HB2 HN2 HB1 HR
  go_wp2_with (first
    | (refine wpList_store_hv rfl 61 (.tmp 5) (.tmp 15) rfl w3.heap.size _ v f 0 0 t x (zb 16) (zb 8) rfl rfl (new_hv w3 _) info_rhdr HT.out HX.out (zb_length _) (zb_length _) ?_; intro w4 hw4 hN4; have HB4 := hid (HB3.out.trans ((stored_new hw4).mono HB3.out.size)); have HN4 := hid (HN3.out.below (stored_new hw4) HN3.out.lt); have HM4 := hid hN4; clear hw4 hN4)
    | (refine wpList_load_hv rfl 58 (.tmp 3) rfl w1.heap.size _ _ v f t x rfl HN4.out Try.underlying58 rfl info_hdr HT.out HX.out ?_)
    | (refine wpList_load_hv rfl 61 (.tmp 5) rfl w3.heap.size _ _ v f t x rfl HM4.out Try.underlying61 rfl info_rhdr HT.out HX.out ?_))
  refine (pworks_any _).mono ?_; rintro e w5 ⟨rfl, hb5⟩
  have HB5 := hid (HB4.out.trans (hb5.mono HB4.out.size))
  clear hb5
  go_wp2_with fail
  go_ret
  exact ⟨rfl, HB5.out⟩
end Go.Proofs.Ytdjbgojdkaipfaa
