/-
  Walk of parent.Read.
-/
import Derived.Test.YtdjbgojdkaipfaaParent
import Derived.Test.YtdjbgojdkaipfaaBits
import Derived.Deep.DeepCutAuto
namespace Go.Proofs.Ytdjbgojdkaipfaa
open Go.RowKit

theorem and1_fin : ∀ n : Fin 256, bits .and .u8 (n.val : Int) 1 = (n.val : Int) % 2 := by decide +kernel
theorem u8_and1 (f : Int) (h0 : 0 ≤ f) (h1 : f ≤ 255) : bits .and .u8 f 1 = f % 2 := by
  have := and1_fin ⟨f.toNat, by omega⟩
  rw [show ((f.toNat : Nat) : Int) = f by omega] at this
  exact this
/-- What is read as a header. -/
def hBad (c : Int) : Int × List UInt8 × List UInt8 × Int × Int := (0, zb 16, zb 8, 0, c)
def verBad (s : List UInt8) : Prop := oneV (pV s) = 255 ∨ (oneV (pV s) = 0 ∧ 55 < s.length) ∨ (55 < s.length ∧ byteAt s 55 ≠ 45)
instance (s : List UInt8) : Decidable (verBad s) := by unfold verBad; infer_instance
def readH (s : List UInt8) : Int × List UInt8 × List UInt8 × Int × Int :=
  if splitOk s = true then
    if oneOk (pV s) = true ∧ oneOk (pF s) = true then
      if verBad s then hBad 15
      else if traceC (pT s) = 3 ∨ spanC (pX s) = 3 then hBad 3
      else if traceC (pT s) = 0 ∧ spanC (pX s) = 0 then (oneV (pV s), traceT (pT s), spanT (pX s), if 0 < oneV (pV s) then oneV (pF s) % 2 else oneV (pF s), 0)
      else hBad 10
    else hBad 3
  else hBad 3
def hdrOut (r : Int × List UInt8 × List UInt8 × Int × Int) : Value := .tuple #[Hv r.1 r.2.1 r.2.2.1 r.2.2.2.1, .int .i64 r.2.2.2.2]
theorem hdrOut_bad (c : Int) : hdrOut (hBad c) = .tuple #[Hv 0 (zb 16) (zb 8) 0, .int .i64 c] := rfl
set_option maxRecDepth 100000 in
set_option maxHeartbeats 8000000 in
theorem pread_any (s : List UInt8) (w : World) (hs : s.length ≤ 140737488355328) :
    Calls Try.prog 41 #[Sv s] w fun e w' => e = .returned (hdrOut (readH s)) ∧ Below w.heap.size w w' := by
  cases hsp : splitOk s with
  | false =>
    have HS := hid (show splitOut s = .tuple #[Sv [], Sv [], Sv [], Sv [], .bool false] by unfold splitOut; rw [hsp]; rfl)
    have HR := hid (show hdrOut (readH s) = .tuple #[Hv 0 (zb 16) (zb 8) 0, .int .i64 3] by rw [← hdrOut_bad]; unfold readH; rw [hsp]; rfl)
    clear hsp
    go_enter Try.func41, Try.ntmps41
    go_wp2_with fail
    refine (split_any s _ (by omega)).mono ?_; rintro e w1 ⟨rfl, hb1⟩
    rw [HS.out]
    obtain ⟨hA, hB, z0, z1, hbw⟩ := box2 hb1
    have HA : Hid (Blk w1 w.heap.size 58 (hc 0 (zb 16) (zb 8) 0).toArray) := hA
    have HB : Hid (Blk w1 (w.heap.size + 1) 58 (hc 0 (zb 16) (zb 8) 0).toArray) := hB
    have HBW := hid hbw
    clear hA hB hbw hb1
    go_wp2_with (first
      | (refine wpList_load_hv rfl 58 (.tmp 4) rfl (w.heap.size + 1) _ _ 0 0 (zb 16) (zb 8) rfl HB.out Try.underlying58 rfl info_hdr (zb_length _) (zb_length _) ?_)
      | (refine wpList_store_hv rfl 58 (.tmp 2) (.tmp 29) rfl w.heap.size _ 0 0 0 0 (zb 16) (zb 8) (zb 16) (zb 8) rfl rfl HA.out info_hdr (zb_length _) (zb_length _) (zb_length _) (zb_length _) ?_; intro w9 hw9 hA9; have HA9 := hid hA9; have HW9 := hid hw9; clear hw9 hA9))
    exact bodyPost_ret (results_hv2 rfl _ _ _ _ _ 0 0 (zb 16) (zb 8) rfl HA9.out Try.underlying58 rfl info_hdr (zb_length _) (zb_length _)) rfl ⟨by rw [HR.out]; rfl, by rw [HW9.out]; exact setRow_below HBW.out (Nat.le_refl _) _⟩

  | true =>
    have HS := hid (show splitOut s = .tuple #[Sv (pV s), Sv (pT s), Sv (pX s), Sv (pF s), .bool true] by unfold splitOut; rw [if_pos hsp])
    have hR1 : readH s = if oneOk (pV s) = true ∧ oneOk (pF s) = true then
      if verBad s then hBad 15
      else if traceC (pT s) = 3 ∨ spanC (pX s) = 3 then hBad 3
      else if traceC (pT s) = 0 ∧ spanC (pX s) = 0 then (oneV (pV s), traceT (pT s), spanT (pX s), if 0 < oneV (pV s) then oneV (pF s) % 2 else oneV (pF s), 0)
      else hBad 10
    else hBad 3 := by unfold readH; rw [if_pos hsp]
    have hl55 : 55 ≤ s.length := by
      have := hsp; unfold splitOk at this; exact (of_decide_eq_true this).1
    obtain ⟨v0, v1⟩ := oneV_bd (pV s)
    obtain ⟨f0, f1⟩ := oneV_bd (pF s)
    clear hsp
    cases hv : oneOk (pV s) with
    | false =>
      have HR := hid (show hdrOut (readH s) = .tuple #[Hv 0 (zb 16) (zb 8) 0, .int .i64 3] by rw [← hdrOut_bad, hR1, if_neg (by rw [hv]; simp)])
      clear hR1
      go_enter Try.func41, Try.ntmps41
      go_wp2_with fail
      refine (split_any s _ (by omega)).mono ?_; rintro e w1 ⟨rfl, hb1⟩
      rw [HS.out]
      obtain ⟨hA, hB, z0, z1, hbw⟩ := box2 hb1
      have HA : Hid (Blk w1 w.heap.size 58 (hc 0 (zb 16) (zb 8) 0).toArray) := hA
      have HB : Hid (Blk w1 (w.heap.size + 1) 58 (hc 0 (zb 16) (zb 8) 0).toArray) := hB
      have HBW := hid hbw
      clear hA hB hbw hb1
      go_wp2_with fail
      refine (one_any (pV s) _ (by unfold pV; simp; omega)).mono ?_; rintro e w2 ⟨rfl, hb2⟩
      go_wp2_with fail
      refine (one_any (pF s) _ (by unfold pF; simp; omega)).mono ?_; rintro e w3 ⟨rfl, hb3⟩
      have HA3 := hid (HA.out.below (ext_trans hb2 hb3) HA.out.lt)
      have HB3 := hid (HB.out.below (ext_trans hb2 hb3) HB.out.lt)
      have HBW3 := hid (ext_trans HBW.out (ext_trans hb2 hb3))
      clear hb2 hb3
      go_wp2_with (first
        | (refine wpList_load_hv rfl 58 (.tmp 4) rfl (w.heap.size + 1) _ _ 0 0 (zb 16) (zb 8) rfl HB3.out Try.underlying58 rfl info_hdr (zb_length _) (zb_length _) ?_)
        | (refine wpList_store_hv rfl 58 (.tmp 2) (.tmp 46) rfl w.heap.size _ 0 0 0 0 (zb 16) (zb 8) (zb 16) (zb 8) rfl rfl HA3.out info_hdr (zb_length _) (zb_length _) (zb_length _) (zb_length _) ?_; intro w9 hw9 hA9; have HA9 := hid hA9; have HW9 := hid hw9; clear hw9 hA9))
      exact bodyPost_ret (results_hv2 rfl _ _ _ _ _ 0 0 (zb 16) (zb 8) rfl HA9.out Try.underlying58 rfl info_hdr (zb_length _) (zb_length _)) rfl ⟨by rw [HR.out]; rfl, by rw [HW9.out]; exact setRow_below HBW3.out (Nat.le_refl _) _⟩

    | true =>
      cases hf : oneOk (pF s) with
      | false =>
        have HR := hid (show hdrOut (readH s) = .tuple #[Hv 0 (zb 16) (zb 8) 0, .int .i64 3] by rw [← hdrOut_bad, hR1, if_neg (by rw [hf]; simp)])
        clear hR1
        go_enter Try.func41, Try.ntmps41
        go_wp2_with fail
        refine (split_any s _ (by omega)).mono ?_; rintro e w1 ⟨rfl, hb1⟩
        rw [HS.out]
        obtain ⟨hA, hB, z0, z1, hbw⟩ := box2 hb1
        have HA : Hid (Blk w1 w.heap.size 58 (hc 0 (zb 16) (zb 8) 0).toArray) := hA
        have HB : Hid (Blk w1 (w.heap.size + 1) 58 (hc 0 (zb 16) (zb 8) 0).toArray) := hB
        have HBW := hid hbw
        clear hA hB hbw hb1
        go_wp2_with fail
        refine (one_any (pV s) _ (by unfold pV; simp; omega)).mono ?_; rintro e w2 ⟨rfl, hb2⟩
        go_wp2_with fail
        refine (one_any (pF s) _ (by unfold pF; simp; omega)).mono ?_; rintro e w3 ⟨rfl, hb3⟩
        have HA3 := hid (HA.out.below (ext_trans hb2 hb3) HA.out.lt)
        have HB3 := hid (HB.out.below (ext_trans hb2 hb3) HB.out.lt)
        have HBW3 := hid (ext_trans HBW.out (ext_trans hb2 hb3))
        clear hb2 hb3
        go_wp2_with (first
          | (refine wpList_load_hv rfl 58 (.tmp 4) rfl (w.heap.size + 1) _ _ 0 0 (zb 16) (zb 8) rfl HB3.out Try.underlying58 rfl info_hdr (zb_length _) (zb_length _) ?_)
          | (refine wpList_store_hv rfl 58 (.tmp 2) (.tmp 46) rfl w.heap.size _ 0 0 0 0 (zb 16) (zb 8) (zb 16) (zb 8) rfl rfl HA3.out info_hdr (zb_length _) (zb_length _) (zb_length _) (zb_length _) ?_; intro w9 hw9 hA9; have HA9 := hid hA9; have HW9 := hid hw9; clear hw9 hA9))
        exact bodyPost_ret (results_hv2 rfl _ _ _ _ _ 0 0 (zb 16) (zb 8) rfl HA9.out Try.underlying58 rfl info_hdr (zb_length _) (zb_length _)) rfl ⟨by rw [HR.out]; rfl, by rw [HW9.out]; exact setRow_below HBW3.out (Nat.le_refl _) _⟩

      | true =>
        rw [if_pos ⟨hv, hf⟩] at hR1
        by_cases hb : verBad s
        · have HR := hid (show hdrOut (readH s) = .tuple #[Hv 0 (zb 16) (zb 8) 0, .int .i64 15] by rw [← hdrOut_bad, hR1, if_pos hb])
          clear hR1
          have hb2 : (oneV (pV s) == 255) = true ∨ ((oneV (pV s) == 255) = false ∧ (oneV (pV s) == 0) = true ∧ 55 < s.length) ∨ ((oneV (pV s) == 255) = false ∧ (oneV (pV s) == 0) = false ∧ 55 < s.length ∧ (byteAt s 55 != 45) = true) := by
            by_cases q1 : oneV (pV s) = 255
            · exact .inl (by simpa using q1)
            · by_cases q2 : oneV (pV s) = 0 ∧ 55 < s.length
              · exact .inr (.inl ⟨by simpa using q1, by simpa using q2.1, q2.2⟩)
              · have q3 : 55 < s.length ∧ byteAt s 55 ≠ 45 := by
                  rcases hb with h | h | h
                  · exact absurd h q1
                  · exact absurd h q2
                  · exact h
                exact .inr (.inr ⟨by simpa using q1, by simpa using fun h => q2 ⟨h, q3.1⟩, q3.1, by simpa using q3.2⟩)
          clear hb
          generalize hVV : oneV (pV s) = V at v0 v1 hb2
          have HVV := hid hVV
          clear hVV
          rcases hb2 with q1 | ⟨q1, q2, q3⟩ | ⟨q1, q2, q3, q4⟩
          · go_enter Try.func41, Try.ntmps41
            go_wp2_with fail
            refine (split_any s _ (by omega)).mono ?_; rintro e w1 ⟨rfl, hb1⟩
            rw [HS.out]
            obtain ⟨hA, hB, z0, z1, hbw⟩ := box2 hb1
            have HA : Hid (Blk w1 w.heap.size 58 (hc 0 (zb 16) (zb 8) 0).toArray) := hA
            have HB : Hid (Blk w1 (w.heap.size + 1) 58 (hc 0 (zb 16) (zb 8) 0).toArray) := hB
            have HBW := hid hbw
            clear hA hB hbw hb1
            go_wp2_with fail
            refine (one_any (pV s) _ (by unfold pV; simp; omega)).mono ?_; rintro e w2 ⟨rfl, hb2⟩
            rw [HVV.out]
            go_wp2_with fail
            refine (one_any (pF s) _ (by unfold pF; simp; omega)).mono ?_; rintro e w3 ⟨rfl, hb3⟩
            have HA3 := hid (HA.out.below (ext_trans hb2 hb3) HA.out.lt)
            have HB3 := hid (HB.out.below (ext_trans hb2 hb3) HB.out.lt)
            have HBW3 := hid (ext_trans HBW.out (ext_trans hb2 hb3))
            clear hb2 hb3
            go_wp2_with (first
              | (refine wpList_load_hv rfl 58 (.tmp 4) rfl (w.heap.size + 1) _ _ 0 0 (zb 16) (zb 8) rfl HB3.out Try.underlying58 rfl info_hdr (zb_length _) (zb_length _) ?_)
              | (refine wpList_store_hv rfl 58 (.tmp 2) (.tmp 68) rfl w.heap.size _ 0 0 0 0 (zb 16) (zb 8) (zb 16) (zb 8) rfl rfl HA3.out info_hdr (zb_length _) (zb_length _) (zb_length _) (zb_length _) ?_; intro w9 hw9 hA9; have HA9 := hid hA9; have HW9 := hid hw9; clear hw9 hA9))
            exact bodyPost_ret (results_hv2 rfl _ _ _ _ _ 0 0 (zb 16) (zb 8) rfl HA9.out Try.underlying58 rfl info_hdr (zb_length _) (zb_length _)) rfl ⟨by rw [HR.out]; rfl, by rw [HW9.out]; exact setRow_below HBW3.out (Nat.le_refl _) _⟩

          · go_enter Try.func41, Try.ntmps41
            go_wp2_with fail
            refine (split_any s _ (by omega)).mono ?_; rintro e w1 ⟨rfl, hb1⟩
            rw [HS.out]
            obtain ⟨hA, hB, z0, z1, hbw⟩ := box2 hb1
            have HA : Hid (Blk w1 w.heap.size 58 (hc 0 (zb 16) (zb 8) 0).toArray) := hA
            have HB : Hid (Blk w1 (w.heap.size + 1) 58 (hc 0 (zb 16) (zb 8) 0).toArray) := hB
            have HBW := hid hbw
            clear hA hB hbw hb1
            go_wp2_with fail
            refine (one_any (pV s) _ (by unfold pV; simp; omega)).mono ?_; rintro e w2 ⟨rfl, hb2⟩
            rw [HVV.out]
            go_wp2_with fail
            refine (one_any (pF s) _ (by unfold pF; simp; omega)).mono ?_; rintro e w3 ⟨rfl, hb3⟩
            have HA3 := hid (HA.out.below (ext_trans hb2 hb3) HA.out.lt)
            have HB3 := hid (HB.out.below (ext_trans hb2 hb3) HB.out.lt)
            have HBW3 := hid (ext_trans HBW.out (ext_trans hb2 hb3))
            clear hb2 hb3
            go_wp2_with (first
              | (refine wpList_load_hv rfl 58 (.tmp 4) rfl (w.heap.size + 1) _ _ 0 0 (zb 16) (zb 8) rfl HB3.out Try.underlying58 rfl info_hdr (zb_length _) (zb_length _) ?_)
              | (refine wpList_store_hv rfl 58 (.tmp 2) (.tmp 68) rfl w.heap.size _ 0 0 0 0 (zb 16) (zb 8) (zb 16) (zb 8) rfl rfl HA3.out info_hdr (zb_length _) (zb_length _) (zb_length _) (zb_length _) ?_; intro w9 hw9 hA9; have HA9 := hid hA9; have HW9 := hid hw9; clear hw9 hA9))
            exact bodyPost_ret (results_hv2 rfl _ _ _ _ _ 0 0 (zb 16) (zb 8) rfl HA9.out Try.underlying58 rfl info_hdr (zb_length _) (zb_length _)) rfl ⟨by rw [HR.out]; rfl, by rw [HW9.out]; exact setRow_below HBW3.out (Nat.le_refl _) _⟩

          · go_enter Try.func41, Try.ntmps41
            go_wp2_with fail
            refine (split_any s _ (by omega)).mono ?_; rintro e w1 ⟨rfl, hb1⟩
            rw [HS.out]
            obtain ⟨hA, hB, z0, z1, hbw⟩ := box2 hb1
            have HA : Hid (Blk w1 w.heap.size 58 (hc 0 (zb 16) (zb 8) 0).toArray) := hA
            have HB : Hid (Blk w1 (w.heap.size + 1) 58 (hc 0 (zb 16) (zb 8) 0).toArray) := hB
            have HBW := hid hbw
            clear hA hB hbw hb1
            go_wp2_with fail
            refine (one_any (pV s) _ (by unfold pV; simp; omega)).mono ?_; rintro e w2 ⟨rfl, hb2⟩
            rw [HVV.out]
            go_wp2_with fail
            refine (one_any (pF s) _ (by unfold pF; simp; omega)).mono ?_; rintro e w3 ⟨rfl, hb3⟩
            have HA3 := hid (HA.out.below (ext_trans hb2 hb3) HA.out.lt)
            have HB3 := hid (HB.out.below (ext_trans hb2 hb3) HB.out.lt)
            have HBW3 := hid (ext_trans HBW.out (ext_trans hb2 hb3))
            clear hb2 hb3
            go_wp2_with (first
              | (refine wpList_load_hv rfl 58 (.tmp 4) rfl (w.heap.size + 1) _ _ 0 0 (zb 16) (zb 8) rfl HB3.out Try.underlying58 rfl info_hdr (zb_length _) (zb_length _) ?_)
              | (refine wpList_store_hv rfl 58 (.tmp 2) (.tmp 68) rfl w.heap.size _ 0 0 0 0 (zb 16) (zb 8) (zb 16) (zb 8) rfl rfl HA3.out info_hdr (zb_length _) (zb_length _) (zb_length _) (zb_length _) ?_; intro w9 hw9 hA9; have HA9 := hid hA9; have HW9 := hid hw9; clear hw9 hA9))
            exact bodyPost_ret (results_hv2 rfl _ _ _ _ _ 0 0 (zb 16) (zb 8) rfl HA9.out Try.underlying58 rfl info_hdr (zb_length _) (zb_length _)) rfl ⟨by rw [HR.out]; rfl, by rw [HW9.out]; exact setRow_below HBW3.out (Nat.le_refl _) _⟩

        · rw [if_neg hb] at hR1
          have hok : (oneV (pV s) == 255) = false ∧ (((oneV (pV s) == 0) = true ∧ oneV (pV s) ≤ 0 ∧ s.length ≤ 55) ∨ ((oneV (pV s) == 0) = false ∧ 0 < oneV (pV s) ∧ s.length ≤ 55) ∨ ((oneV (pV s) == 0) = false ∧ 0 < oneV (pV s) ∧ 55 < s.length ∧ (byteAt s 55 != 45) = false)) := by
            unfold verBad at hb
            have n1 : oneV (pV s) ≠ 255 := fun h => hb (.inl h)
            refine ⟨by simpa using n1, ?_⟩
            by_cases q2 : oneV (pV s) = 0
            · exact .inl ⟨by simpa using q2, by omega, by have := fun h => hb (.inr (.inl ⟨q2, h⟩)); omega⟩
            · by_cases q3 : 55 < s.length
              · exact .inr (.inr ⟨by simpa using q2, by omega, q3, by have := fun h => hb (.inr (.inr ⟨q3, h⟩)); simpa using this⟩)
              · exact .inr (.inl ⟨by simpa using q2, by omega, by omega⟩)
          clear hb
          obtain ⟨q1, hok⟩ := hok
          have HTL := hid (traceT_length (pT s))
          have HXL := hid (spanT_length (pX s))
          generalize hVV : oneV (pV s) = V at v0 v1 q1 hok hR1
          generalize hFF : oneV (pF s) = F at f0 f1 hR1
          generalize hcc : traceC (pT s) = c at hR1
          generalize hdd : spanC (pX s) = d at hR1
          generalize hTT : traceT (pT s) = T at hR1 HTL
          generalize hXX : spanT (pX s) = X at hR1 HXL
          have HVV := hid hVV
          have HFF := hid hFF
          have HCC := hid hcc
          have HDD := hid hdd
          have HTT := hid hTT
          have HXX := hid hXX
          clear hVV hFF hcc hdd hTT hXX
          have cases5 : (c = 3) ∨ (c ≠ 3 ∧ d = 3) ∨ (c ≠ 3 ∧ d ≠ 3 ∧ c ≠ 0) ∨ (c ≠ 3 ∧ d ≠ 3 ∧ c = 0 ∧ d ≠ 0) ∨ (c ≠ 3 ∧ d ≠ 3 ∧ c = 0 ∧ d = 0) := by omega
          have HR1 := hid hR1
          clear hR1
          have i0 : ∀ u, (Instr.index 149 (.agg #[.int .i64 c, .int .i64 d]) (.int .i64 0)).run Try.prog u = .ok (.int .i64 c) u := fun _ => by kernel_rfl
          have i1 : ∀ u, (Instr.index 149 (.agg #[.int .i64 c, .int .i64 d]) (.int .i64 1)).run Try.prog u = .ok (.int .i64 d) u := fun _ => by kernel_rfl
          rcases cases5 with k1 | ⟨k1, k2⟩ | ⟨k1, k2, k3⟩ | ⟨k1, k2, k3, k4⟩ | ⟨k1, k2, k3, k4⟩
          · have HR := hid (show hdrOut (readH s) = .tuple #[Hv 0 (zb 16) (zb 8) 0, .int .i64 3] by rw [← hdrOut_bad, HR1.out, if_pos (.inl k1)])
            have c3 : (c == 3) = true := by simpa using k1
            have HK := hid k1
            clear k1
            rcases hok with ⟨m1, m2, m3⟩ | ⟨m1, m2, m3⟩ | ⟨m1, m2, m3, m4⟩
            all_goals
              go_enter Try.func41, Try.ntmps41
              go_wp2_with fail
              refine (split_any s _ (by omega)).mono ?_; rintro e w1 ⟨rfl, hb1⟩
              rw [HS.out]
              obtain ⟨hA, hB, z0, z1, hbw⟩ := box2 hb1
              have HA : Hid (Blk w1 w.heap.size 58 (hc 0 (zb 16) (zb 8) 0).toArray) := hA
              have HB : Hid (Blk w1 (w.heap.size + 1) 58 (hc 0 (zb 16) (zb 8) 0).toArray) := hB
              have HBW := hid hbw
              clear hA hB hbw hb1
              go_wp2_with fail
              refine (one_any (pV s) _ (by unfold pV; simp; omega)).mono ?_; rintro e w2 ⟨rfl, hb2⟩
              rw [HVV.out]
              go_wp2_with fail
              refine (one_any (pF s) _ (by unfold pF; simp; omega)).mono ?_; rintro e w3 ⟨rfl, hb3⟩
              rw [HFF.out]
              have HA3 := hid (HA.out.below (ext_trans hb2 hb3) HA.out.lt)
              have HB3 := hid (HB.out.below (ext_trans hb2 hb3) HB.out.lt)
              have HBW3 := hid (ext_trans HBW.out (ext_trans hb2 hb3))
              clear hb2 hb3
              go_wp2_with fail
              refine (readtrace_any (pT s) _ (by unfold pT; simp; omega)).mono ?_; rintro e w4 ⟨rfl, hb4⟩
              rw [HTT.out, HCC.out]
              go_wp2_with (refine wpList_store_av rfl 39 (.tmp 13) (.tmp 72) rfl _ 16 T (zb 16) _ rfl rfl (Blk.new _ _ _) info_trace HTL.out (zb_length _) ?_; intro w5 hw5 hT5; have HT5 := hid hT5; have HE5 : Hid (Below w4.heap.size w4 w5) := (by rw [hw5]; exact setRow_below (ext_alloc w4 _) (Nat.le_refl _) _); clear hw5 hT5)
              refine (readspan_any (pX s) _ (by unfold pX; simp; omega)).mono ?_; rintro e w6 ⟨rfl, hb6⟩
              rw [HXX.out, HDD.out]
              go_wp2_with (refine wpList_store_av rfl 41 (.tmp 15) (.tmp 77) rfl _ 8 X (zb 8) _ rfl rfl (Blk.new _ _ _) info_span HXL.out (zb_length _) ?_; intro w7 hw7 hX7; have HX7 := hid hX7; have HE7 : Hid (Below w6.heap.size w6 w7) := (by rw [hw7]; exact setRow_below (ext_alloc w6 _) (Nat.le_refl _) _); clear hw7 hX7)
              have B37 := hid (ext_trans (ext_trans hb4 HE5.out) (ext_trans hb6 HE7.out))
              have HA7 := hid (HA3.out.below B37.out HA3.out.lt)
              have HB7 := hid (HB3.out.below B37.out HB3.out.lt)
              have HT7 := hid (HT5.out.below (ext_trans hb6 HE7.out) HT5.out.lt)
              have HBW7 := hid (ext_trans HBW3.out B37.out)
              clear hb4 hb6
              go_loop [82] (fun i => i = .int .i64 0) (fun i => 2 - (intOf i).toNat)
              case atStart => exact rfl
              case round =>
                subst hrel
                go_wp2_with (first
                  | (refine wpList_load_hv rfl 58 (.tmp 4) rfl (w.heap.size + 1) _ _ 0 0 (zb 16) (zb 8) rfl HB7.out Try.underlying58 rfl info_hdr (zb_length _) (zb_length _) ?_)
                  | (refine wpList_store_hv rfl 58 (.tmp 2) (.tmp 87) rfl w.heap.size _ 0 0 0 0 (zb 16) (zb 8) (zb 16) (zb 8) rfl rfl HA7.out info_hdr (zb_length _) (zb_length _) (zb_length _) (zb_length _) ?_; intro w9 hw9 hA9; have HA9 := hid hA9; have HW9 := hid hw9; clear hw9 hA9))
                exact bodyPost_ret (results_hv2 rfl _ _ _ _ _ 0 0 (zb 16) (zb 8) rfl HA9.out Try.underlying58 rfl info_hdr (zb_length _) (zb_length _)) rfl ⟨by rw [HR.out, ← HK.out]; rfl, by rw [HW9.out]; exact setRow_below HBW7.out (Nat.le_refl _) _⟩

          · have HR := hid (show hdrOut (readH s) = .tuple #[Hv 0 (zb 16) (zb 8) 0, .int .i64 3] by rw [← hdrOut_bad, HR1.out, if_pos (.inr k2)])
            have c3 : (c == 3) = false := by simpa using k1
            have d3 : (d == 3) = true := by simpa using k2
            have HK := hid k2
            clear k1 k2
            rcases hok with ⟨m1, m2, m3⟩ | ⟨m1, m2, m3⟩ | ⟨m1, m2, m3, m4⟩
            all_goals
              go_enter Try.func41, Try.ntmps41
              go_wp2_with fail
              refine (split_any s _ (by omega)).mono ?_; rintro e w1 ⟨rfl, hb1⟩
              rw [HS.out]
              obtain ⟨hA, hB, z0, z1, hbw⟩ := box2 hb1
              have HA : Hid (Blk w1 w.heap.size 58 (hc 0 (zb 16) (zb 8) 0).toArray) := hA
              have HB : Hid (Blk w1 (w.heap.size + 1) 58 (hc 0 (zb 16) (zb 8) 0).toArray) := hB
              have HBW := hid hbw
              clear hA hB hbw hb1
              go_wp2_with fail
              refine (one_any (pV s) _ (by unfold pV; simp; omega)).mono ?_; rintro e w2 ⟨rfl, hb2⟩
              rw [HVV.out]
              go_wp2_with fail
              refine (one_any (pF s) _ (by unfold pF; simp; omega)).mono ?_; rintro e w3 ⟨rfl, hb3⟩
              rw [HFF.out]
              have HA3 := hid (HA.out.below (ext_trans hb2 hb3) HA.out.lt)
              have HB3 := hid (HB.out.below (ext_trans hb2 hb3) HB.out.lt)
              have HBW3 := hid (ext_trans HBW.out (ext_trans hb2 hb3))
              clear hb2 hb3
              go_wp2_with fail
              refine (readtrace_any (pT s) _ (by unfold pT; simp; omega)).mono ?_; rintro e w4 ⟨rfl, hb4⟩
              rw [HTT.out, HCC.out]
              go_wp2_with (refine wpList_store_av rfl 39 (.tmp 13) (.tmp 72) rfl _ 16 T (zb 16) _ rfl rfl (Blk.new _ _ _) info_trace HTL.out (zb_length _) ?_; intro w5 hw5 hT5; have HT5 := hid hT5; have HE5 : Hid (Below w4.heap.size w4 w5) := (by rw [hw5]; exact setRow_below (ext_alloc w4 _) (Nat.le_refl _) _); clear hw5 hT5)
              refine (readspan_any (pX s) _ (by unfold pX; simp; omega)).mono ?_; rintro e w6 ⟨rfl, hb6⟩
              rw [HXX.out, HDD.out]
              go_wp2_with (refine wpList_store_av rfl 41 (.tmp 15) (.tmp 77) rfl _ 8 X (zb 8) _ rfl rfl (Blk.new _ _ _) info_span HXL.out (zb_length _) ?_; intro w7 hw7 hX7; have HX7 := hid hX7; have HE7 : Hid (Below w6.heap.size w6 w7) := (by rw [hw7]; exact setRow_below (ext_alloc w6 _) (Nat.le_refl _) _); clear hw7 hX7)
              have B37 := hid (ext_trans (ext_trans hb4 HE5.out) (ext_trans hb6 HE7.out))
              have HA7 := hid (HA3.out.below B37.out HA3.out.lt)
              have HB7 := hid (HB3.out.below B37.out HB3.out.lt)
              have HT7 := hid (HT5.out.below (ext_trans hb6 HE7.out) HT5.out.lt)
              have HBW7 := hid (ext_trans HBW3.out B37.out)
              clear hb4 hb6
              go_loop [82] (fun i => i = .int .i64 0 ∨ i = .int .i64 1) (fun i => 2 - (intOf i).toNat)
              case atStart => exact .inl rfl
              case round =>
                rcases hrel with rfl | rfl
                · go_wp2_with fail
                  go_round
                  case rel => exact .inr rfl
                  case measure => simp [intOf]
                · go_wp2_with (first
                    | (refine wpList_load_hv rfl 58 (.tmp 4) rfl (w.heap.size + 1) _ _ 0 0 (zb 16) (zb 8) rfl HB7.out Try.underlying58 rfl info_hdr (zb_length _) (zb_length _) ?_)
                    | (refine wpList_store_hv rfl 58 (.tmp 2) (.tmp 87) rfl w.heap.size _ 0 0 0 0 (zb 16) (zb 8) (zb 16) (zb 8) rfl rfl HA7.out info_hdr (zb_length _) (zb_length _) (zb_length _) (zb_length _) ?_; intro w9 hw9 hA9; have HA9 := hid hA9; have HW9 := hid hw9; clear hw9 hA9))
                  exact bodyPost_ret (results_hv2 rfl _ _ _ _ _ 0 0 (zb 16) (zb 8) rfl HA9.out Try.underlying58 rfl info_hdr (zb_length _) (zb_length _)) rfl ⟨by rw [HR.out, ← HK.out]; rfl, by rw [HW9.out]; exact setRow_below HBW7.out (Nat.le_refl _) _⟩

          · have HR := hid (show hdrOut (readH s) = .tuple #[Hv 0 (zb 16) (zb 8) 0, .int .i64 10] by rw [← hdrOut_bad, HR1.out, if_neg (by omega), if_neg (by omega)])
            have c3 : (c == 3) = false := by simpa using k1
            have d3 : (d == 3) = false := by simpa using k2
            have c0 : (c != 0) = true := by simpa using k3
            clear k1 k2 k3
            rcases hok with ⟨m1, m2, m3⟩ | ⟨m1, m2, m3⟩ | ⟨m1, m2, m3, m4⟩
            all_goals
              go_enter Try.func41, Try.ntmps41
              go_wp2_with fail
              refine (split_any s _ (by omega)).mono ?_; rintro e w1 ⟨rfl, hb1⟩
              rw [HS.out]
              obtain ⟨hA, hB, z0, z1, hbw⟩ := box2 hb1
              have HA : Hid (Blk w1 w.heap.size 58 (hc 0 (zb 16) (zb 8) 0).toArray) := hA
              have HB : Hid (Blk w1 (w.heap.size + 1) 58 (hc 0 (zb 16) (zb 8) 0).toArray) := hB
              have HBW := hid hbw
              clear hA hB hbw hb1
              go_wp2_with fail
              refine (one_any (pV s) _ (by unfold pV; simp; omega)).mono ?_; rintro e w2 ⟨rfl, hb2⟩
              rw [HVV.out]
              go_wp2_with fail
              refine (one_any (pF s) _ (by unfold pF; simp; omega)).mono ?_; rintro e w3 ⟨rfl, hb3⟩
              rw [HFF.out]
              have HA3 := hid (HA.out.below (ext_trans hb2 hb3) HA.out.lt)
              have HB3 := hid (HB.out.below (ext_trans hb2 hb3) HB.out.lt)
              have HBW3 := hid (ext_trans HBW.out (ext_trans hb2 hb3))
              clear hb2 hb3
              go_wp2_with fail
              refine (readtrace_any (pT s) _ (by unfold pT; simp; omega)).mono ?_; rintro e w4 ⟨rfl, hb4⟩
              rw [HTT.out, HCC.out]
              go_wp2_with (refine wpList_store_av rfl 39 (.tmp 13) (.tmp 72) rfl _ 16 T (zb 16) _ rfl rfl (Blk.new _ _ _) info_trace HTL.out (zb_length _) ?_; intro w5 hw5 hT5; have HT5 := hid hT5; have HE5 : Hid (Below w4.heap.size w4 w5) := (by rw [hw5]; exact setRow_below (ext_alloc w4 _) (Nat.le_refl _) _); clear hw5 hT5)
              refine (readspan_any (pX s) _ (by unfold pX; simp; omega)).mono ?_; rintro e w6 ⟨rfl, hb6⟩
              rw [HXX.out, HDD.out]
              go_wp2_with (refine wpList_store_av rfl 41 (.tmp 15) (.tmp 77) rfl _ 8 X (zb 8) _ rfl rfl (Blk.new _ _ _) info_span HXL.out (zb_length _) ?_; intro w7 hw7 hX7; have HX7 := hid hX7; have HE7 : Hid (Below w6.heap.size w6 w7) := (by rw [hw7]; exact setRow_below (ext_alloc w6 _) (Nat.le_refl _) _); clear hw7 hX7)
              have B37 := hid (ext_trans (ext_trans hb4 HE5.out) (ext_trans hb6 HE7.out))
              have HA7 := hid (HA3.out.below B37.out HA3.out.lt)
              have HB7 := hid (HB3.out.below B37.out HB3.out.lt)
              have HT7 := hid (HT5.out.below (ext_trans hb6 HE7.out) HT5.out.lt)
              have HBW7 := hid (ext_trans HBW3.out B37.out)
              clear hb4 hb6
              go_loop [82] (fun i => i = .int .i64 0 ∨ i = .int .i64 1 ∨ i = .int .i64 2) (fun i => 2 - (intOf i).toNat)
              case atStart => exact .inl rfl
              case round =>
                rcases hrel with rfl | rfl | rfl
                · go_wp2_with fail
                  go_round
                  case rel => exact .inr (.inl rfl)
                  case measure => simp [intOf]
                · go_wp2_with fail
                  go_round
                  case rel => exact .inr (.inr rfl)
                  case measure => simp [intOf]
                · go_wp2_with (first
                    | (refine wpList_load_hv rfl 58 (.tmp 4) rfl (w.heap.size + 1) _ _ 0 0 (zb 16) (zb 8) rfl HB7.out Try.underlying58 rfl info_hdr (zb_length _) (zb_length _) ?_)
                    | (refine wpList_store_hv rfl 58 (.tmp 2) (.tmp 96) rfl w.heap.size _ 0 0 0 0 (zb 16) (zb 8) (zb 16) (zb 8) rfl rfl HA7.out info_hdr (zb_length _) (zb_length _) (zb_length _) (zb_length _) ?_; intro w9 hw9 hA9; have HA9 := hid hA9; have HW9 := hid hw9; clear hw9 hA9))
                  exact bodyPost_ret (results_hv2 rfl _ _ _ _ _ 0 0 (zb 16) (zb 8) rfl HA9.out Try.underlying58 rfl info_hdr (zb_length _) (zb_length _)) rfl ⟨by rw [HR.out]; rfl, by rw [HW9.out]; exact setRow_below HBW7.out (Nat.le_refl _) _⟩

          · have HR := hid (show hdrOut (readH s) = .tuple #[Hv 0 (zb 16) (zb 8) 0, .int .i64 10] by rw [← hdrOut_bad, HR1.out, if_neg (by omega), if_neg (by omega)])
            have c3 : (c == 3) = false := by simpa using k1
            have d3 : (d == 3) = false := by simpa using k2
            have c0 : (c != 0) = false := by simpa using k3
            have d0 : (d != 0) = true := by simpa using k4
            clear k1 k2 k3 k4
            rcases hok with ⟨m1, m2, m3⟩ | ⟨m1, m2, m3⟩ | ⟨m1, m2, m3, m4⟩
            all_goals
              go_enter Try.func41, Try.ntmps41
              go_wp2_with fail
              refine (split_any s _ (by omega)).mono ?_; rintro e w1 ⟨rfl, hb1⟩
              rw [HS.out]
              obtain ⟨hA, hB, z0, z1, hbw⟩ := box2 hb1
              have HA : Hid (Blk w1 w.heap.size 58 (hc 0 (zb 16) (zb 8) 0).toArray) := hA
              have HB : Hid (Blk w1 (w.heap.size + 1) 58 (hc 0 (zb 16) (zb 8) 0).toArray) := hB
              have HBW := hid hbw
              clear hA hB hbw hb1
              go_wp2_with fail
              refine (one_any (pV s) _ (by unfold pV; simp; omega)).mono ?_; rintro e w2 ⟨rfl, hb2⟩
              rw [HVV.out]
              go_wp2_with fail
              refine (one_any (pF s) _ (by unfold pF; simp; omega)).mono ?_; rintro e w3 ⟨rfl, hb3⟩
              rw [HFF.out]
              have HA3 := hid (HA.out.below (ext_trans hb2 hb3) HA.out.lt)
              have HB3 := hid (HB.out.below (ext_trans hb2 hb3) HB.out.lt)
              have HBW3 := hid (ext_trans HBW.out (ext_trans hb2 hb3))
              clear hb2 hb3
              go_wp2_with fail
              refine (readtrace_any (pT s) _ (by unfold pT; simp; omega)).mono ?_; rintro e w4 ⟨rfl, hb4⟩
              rw [HTT.out, HCC.out]
              go_wp2_with (refine wpList_store_av rfl 39 (.tmp 13) (.tmp 72) rfl _ 16 T (zb 16) _ rfl rfl (Blk.new _ _ _) info_trace HTL.out (zb_length _) ?_; intro w5 hw5 hT5; have HT5 := hid hT5; have HE5 : Hid (Below w4.heap.size w4 w5) := (by rw [hw5]; exact setRow_below (ext_alloc w4 _) (Nat.le_refl _) _); clear hw5 hT5)
              refine (readspan_any (pX s) _ (by unfold pX; simp; omega)).mono ?_; rintro e w6 ⟨rfl, hb6⟩
              rw [HXX.out, HDD.out]
              go_wp2_with (refine wpList_store_av rfl 41 (.tmp 15) (.tmp 77) rfl _ 8 X (zb 8) _ rfl rfl (Blk.new _ _ _) info_span HXL.out (zb_length _) ?_; intro w7 hw7 hX7; have HX7 := hid hX7; have HE7 : Hid (Below w6.heap.size w6 w7) := (by rw [hw7]; exact setRow_below (ext_alloc w6 _) (Nat.le_refl _) _); clear hw7 hX7)
              have B37 := hid (ext_trans (ext_trans hb4 HE5.out) (ext_trans hb6 HE7.out))
              have HA7 := hid (HA3.out.below B37.out HA3.out.lt)
              have HB7 := hid (HB3.out.below B37.out HB3.out.lt)
              have HT7 := hid (HT5.out.below (ext_trans hb6 HE7.out) HT5.out.lt)
              have HBW7 := hid (ext_trans HBW3.out B37.out)
              clear hb4 hb6
              go_loop [82] (fun i => i = .int .i64 0 ∨ i = .int .i64 1 ∨ i = .int .i64 2) (fun i => 2 - (intOf i).toNat)
              case atStart => exact .inl rfl
              case round =>
                rcases hrel with rfl | rfl | rfl
                · go_wp2_with fail
                  go_round
                  case rel => exact .inr (.inl rfl)
                  case measure => simp [intOf]
                · go_wp2_with fail
                  go_round
                  case rel => exact .inr (.inr rfl)
                  case measure => simp [intOf]
                · go_wp2_with (first
                    | (refine wpList_load_hv rfl 58 (.tmp 4) rfl (w.heap.size + 1) _ _ 0 0 (zb 16) (zb 8) rfl HB7.out Try.underlying58 rfl info_hdr (zb_length _) (zb_length _) ?_)
                    | (refine wpList_store_hv rfl 58 (.tmp 2) (.tmp 96) rfl w.heap.size _ 0 0 0 0 (zb 16) (zb 8) (zb 16) (zb 8) rfl rfl HA7.out info_hdr (zb_length _) (zb_length _) (zb_length _) (zb_length _) ?_; intro w9 hw9 hA9; have HA9 := hid hA9; have HW9 := hid hw9; clear hw9 hA9))
                  exact bodyPost_ret (results_hv2 rfl _ _ _ _ _ 0 0 (zb 16) (zb 8) rfl HA9.out Try.underlying58 rfl info_hdr (zb_length _) (zb_length _)) rfl ⟨by rw [HR.out]; rfl, by rw [HW9.out]; exact setRow_below HBW7.out (Nat.le_refl _) _⟩

          · have HR := hid (show hdrOut (readH s) = .tuple #[Hv V T X (if 0 < V then F % 2 else F), .int .i64 0] by rw [HR1.out, if_neg (by omega), if_pos ⟨k3, k4⟩]; rfl)
            have c3 : (c == 3) = false := by simpa using k1
            have d3 : (d == 3) = false := by simpa using k2
            have c0 : (c != 0) = false := by simpa using k3
            have d0 : (d != 0) = false := by simpa using k4
            have hand := u8_and1 F f0 f1
            clear k1 k2 k3 k4
            rcases hok with ⟨m1, m2, m3⟩ | ⟨m1, m2, m3⟩ | ⟨m1, m2, m3, m4⟩
            all_goals
              go_enter Try.func41, Try.ntmps41
              go_wp2_with fail
              refine (split_any s _ (by omega)).mono ?_; rintro e w1 ⟨rfl, hb1⟩
              rw [HS.out]
              obtain ⟨hA, hB, z0, z1, hbw⟩ := box2 hb1
              have HA : Hid (Blk w1 w.heap.size 58 (hc 0 (zb 16) (zb 8) 0).toArray) := hA
              have HB : Hid (Blk w1 (w.heap.size + 1) 58 (hc 0 (zb 16) (zb 8) 0).toArray) := hB
              have HBW := hid hbw
              clear hA hB hbw hb1
              go_wp2_with fail
              refine (one_any (pV s) _ (by unfold pV; simp; omega)).mono ?_; rintro e w2 ⟨rfl, hb2⟩
              rw [HVV.out]
              go_wp2_with fail
              refine (one_any (pF s) _ (by unfold pF; simp; omega)).mono ?_; rintro e w3 ⟨rfl, hb3⟩
              rw [HFF.out]
              have HA3 := hid (HA.out.below (ext_trans hb2 hb3) HA.out.lt)
              have HB3 := hid (HB.out.below (ext_trans hb2 hb3) HB.out.lt)
              have HBW3 := hid (ext_trans HBW.out (ext_trans hb2 hb3))
              clear hb2 hb3
              go_wp2_with fail
              refine (readtrace_any (pT s) _ (by unfold pT; simp; omega)).mono ?_; rintro e w4 ⟨rfl, hb4⟩
              rw [HTT.out, HCC.out]
              go_wp2_with (refine wpList_store_av rfl 39 (.tmp 13) (.tmp 72) rfl _ 16 T (zb 16) _ rfl rfl (Blk.new _ _ _) info_trace HTL.out (zb_length _) ?_; intro w5 hw5 hT5; have HT5 := hid hT5; have HE5 : Hid (Below w4.heap.size w4 w5) := (by rw [hw5]; exact setRow_below (ext_alloc w4 _) (Nat.le_refl _) _); clear hw5 hT5)
              refine (readspan_any (pX s) _ (by unfold pX; simp; omega)).mono ?_; rintro e w6 ⟨rfl, hb6⟩
              rw [HXX.out, HDD.out]
              go_wp2_with (refine wpList_store_av rfl 41 (.tmp 15) (.tmp 77) rfl _ 8 X (zb 8) _ rfl rfl (Blk.new _ _ _) info_span HXL.out (zb_length _) ?_; intro w7 hw7 hX7; have HX7 := hid hX7; have HE7 : Hid (Below w6.heap.size w6 w7) := (by rw [hw7]; exact setRow_below (ext_alloc w6 _) (Nat.le_refl _) _); clear hw7 hX7)
              have B37 := hid (ext_trans (ext_trans hb4 HE5.out) (ext_trans hb6 HE7.out))
              have HA7 := hid (HA3.out.below B37.out HA3.out.lt)
              have HB7 := hid (HB3.out.below B37.out HB3.out.lt)
              have HT7 := hid (HT5.out.below (ext_trans hb6 HE7.out) HT5.out.lt)
              have HBW7 := hid (ext_trans HBW3.out B37.out)
              clear hb4 hb6
              go_loop [82] (fun i => i = .int .i64 0 ∨ i = .int .i64 1 ∨ i = .int .i64 2) (fun i => 2 - (intOf i).toNat)
              case atStart => exact .inl rfl
              case round =>
                rcases hrel with rfl | rfl | rfl
                · go_wp2_with fail
                  go_round
                  case rel => exact .inr (.inl rfl)
                  case measure => simp [intOf]
                · go_wp2_with fail
                  go_round
                  case rel => exact .inr (.inr rfl)
                  case measure => simp [intOf]
                · go_wp2_with (first
                    | (refine wpList_load_av rfl 39 (.tmp 13) rfl _ 16 T _ rfl HT7.out Try.underlying39 info_trace HTL.out ?_)
                    | (refine wpList_load_av rfl 41 (.tmp 15) rfl _ 8 X _ rfl HX7.out Try.underlying41 info_span HXL.out ?_)
                    | (refine wpList_build4 rfl 58 0 1 2 3 (.tmp 101) (.tmp 102) (.tmp 103) (.tmp 104) rfl (.int .u8 V) (Av T) (Av X) (.int .u8 (F)) _ rfl rfl rfl rfl (built_full V (F) T X HTL.out HXL.out) ?_; change wpList _ _ _ _ (Act.put _ _ (Hv V T X (F))) _)
                    | (refine wpList_build4 rfl 58 0 1 2 3 (.tmp 101) (.tmp 102) (.tmp 103) (.tmp 104) rfl (.int .u8 V) (Av T) (Av X) (.int .u8 (F % 2)) _ rfl rfl rfl rfl (built_full V (F % 2) T X HTL.out HXL.out) ?_; change wpList _ _ _ _ (Act.put _ _ (Hv V T X (F % 2))) _)
                    | (refine wpList_store_hv rfl 58 (.tmp 2) (.tmp 105) rfl w.heap.size _ V (F) 0 0 T X (zb 16) (zb 8) rfl rfl HA7.out info_hdr HTL.out HXL.out (zb_length _) (zb_length _) ?_; intro w9 hw9 hA9; have HA9 := hid hA9; have HW9 := hid hw9; clear hw9 hA9)
                    | (refine wpList_store_hv rfl 58 (.tmp 2) (.tmp 105) rfl w.heap.size _ V (F % 2) 0 0 T X (zb 16) (zb 8) rfl rfl HA7.out info_hdr HTL.out HXL.out (zb_length _) (zb_length _) ?_; intro w9 hw9 hA9; have HA9 := hid hA9; have HW9 := hid hw9; clear hw9 hA9))
                  first
                    | exact bodyPost_ret (results_hv2 rfl _ _ _ _ _ V F T X rfl HA9.out Try.underlying58 rfl info_hdr HTL.out HXL.out) rfl ⟨by rw [HR.out, if_neg (by omega)]; rfl, by rw [HW9.out]; exact setRow_below HBW7.out (Nat.le_refl _) _⟩
                    | exact bodyPost_ret (results_hv2 rfl _ _ _ _ _ V (F % 2) T X rfl HA9.out Try.underlying58 rfl info_hdr HTL.out HXL.out) rfl ⟨by rw [HR.out, if_pos (by omega)]; rfl, by rw [HW9.out]; exact setRow_below HBW7.out (Nat.le_refl _) _⟩

end Go.Proofs.Ytdjbgojdkaipfaa
