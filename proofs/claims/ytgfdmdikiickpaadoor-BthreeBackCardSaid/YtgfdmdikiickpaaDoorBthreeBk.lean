/-
  The law BthreeBack.
-/
import Derived.Test.YtgfdmdikiickpaaDoorBthreeTx
namespace Go.Proofs.YtgfdmdikiickpaaDoor
open Go.RowKit

theorem dash_at {s : List UInt8} {k : Nat} (h : k < s.length) : decide ((45 : UInt8) ∈ s.take (k + 1)) = (decide ((45 : UInt8) ∈ s.take k) || (byteAt s k == 45)) := by
  rw [List.take_succ_eq_append_getElem h, byteAt_getElem s k h]
  generalize s.take k = T
  generalize s[k] = x
  by_cases e : x = 45
  · subst e
    rw [show decide ((45 : UInt8) ∈ T ++ [45]) = true by simp]
    have : (bi 45 == 45) = true := rfl
    rw [this, Bool.or_true]
  · have e2 : (bi x == 45) = false := by
      rw [beq_eq_false_iff_ne]
      exact fun q => e (bi_inj (by rw [q]; rfl))
    rw [e2]
    simp [Ne.symm e]
theorem within_le (p : List UInt8) (h : p.length = 8) : (within p).length ≤ 16 := by
  unfold within
  split
  · simp
  · rw [hexEnc_length, h]; decide
theorem short_text {t x p : List UInt8} {k : Int} (h : Okc t x p) : shortM (multiT t x p k) := by
  have hw := within_le p h.2.2
  have h16 : (if t = zb 16 then [] else hexEnc t).length ≤ 32 := by split; simp; rw [hexEnc_length, h.1]; decide
  have h8 : (if t = zb 16 then [] else hexEnc x).length ≤ 16 := by split; simp; rw [hexEnc_length, h.2.1]; decide
  unfold multiT shortM
  split
  · exact ⟨by simp only; omega, by simp only; omega, by simp only; omega⟩
  · exact ⟨by decide, by decide, by decide⟩
theorem letter_le (k : Int) : (letterS k).length ≤ 1 := by
  unfold letterS
  repeat' split
  all_goals decide
theorem one_le {t x p : List UInt8} {k : Int} (h : Okc t x p) : (oneT t x p k).length ≤ 100 := by
  have := letter_le k
  unfold oneT
  split
  · split
    · omega
    · have h1 : (if k = 0 then ([] : List UInt8) else [45] ++ letterS k ++ (if p = zb 8 then [] else [45] ++ hexEnc p)).length ≤ 19 := by
        split
        · simp
        · have : (if p = zb 8 then ([] : List UInt8) else [45] ++ hexEnc p).length ≤ 17 := by
            split
            · simp
            · rw [List.length_append, hexEnc_length, h.2.2]; decide
          simp only [List.length_append, List.length_singleton] at *
          omega
      rw [List.length_append, List.length_append, List.length_append, hexEnc_length, hexEnc_length, h.1, h.2.1]
      simp only [List.length_singleton]
      omega
  · simp
theorem Frm.head {w0 w : World} {b : Bk} {L : List Bk} (h : Frm w0 w (b :: L)) : Frm w0 w [b] :=
  ⟨h.bel, fun i c hi => by cases i with | zero => exact h.at_ 0 c hi | succ n => simp at hi, fun i c hi => by cases i with | zero => exact h.hi 0 c hi | succ n => simp at hi, fun i j c d hi hj e => by
    exfalso
    cases i with
    | succ n => simp at hi
    | zero => cases j with
      | succ n => simp at hj
      | zero => exact e rfl⟩
def BackRel (W1 : World) (s : List UInt8) (d i : Value) (wr : World) : Prop := ∃ (k : Nat) (b : Bool), d = .bool b ∧ b = decide ((45 : UInt8) ∈ s.take k) ∧ i = .int .i64 (k : Int) ∧ k ≤ s.length ∧ wr = W1
set_option maxRecDepth 100000 in
set_option maxHeartbeats 4000000 in
theorem bthreeBack_any (t x p : List UInt8) (k : Int) (s : List UInt8) (w : World) (hl : Okc t x p) (hs : s.length ≤ 140737488351232) :
    Calls Tryd.prog 5 #[Cv t x p k, Sv s] w fun e w' => e = .returned (.bool true) ∧ Below w.heap.size w w' := by
  have HL := hid hl
  have HSM := hid (short_text (k := k) hl)
  have hHF : Frm w _ [(w.heap.size, 29, (cc t x p k).toArray)] := (Frm.start w).new 29 (cc t x p k).toArray rfl
  obtain ⟨W1, hW⟩ : ∃ W1, w.alloc (.cells (cc t x p k).toArray 29) = W1 := ⟨_, rfl⟩
  rw [hW] at hHF
  have HF := hid hHF
  have HW := hid hW
  clear hHF hW
  go_enter Tryd.func5, Tryd.ntmps5
  go_upto_region 1 with fail
  rw [HW.out]
  clear HW
  try simp only [string_Sv]
  go_wp2_with fail
  go_loopw [5, 6] (fun d i wr => BackRel W1 s d i wr) (fun _ i _ => s.length - (intOf i).toNat)
  case atStart => exact ⟨0, false, rfl, by simp, rfl, Nat.zero_le _, rfl⟩
  case round =>
    obtain ⟨j, b, rfl, hb, rfl, hj, rfl⟩ := hrel
    have HB := hid hb
    clear hb
    have HLs := hid hs
    by_cases hlt : j < s.length
    · have HN := hid (dash_at hlt)
      have qi : (0 : Int) ≤ (j : Int) ∧ (j : Int) < (s.length : Int) := by omega
      cases b with
      | true =>
        go_wp2_with fail
        refine ⟨⟨j + 1, true, rfl, by rw [HN.out, ← HB.out]; rfl, by go_num, hlt, rfl⟩, by simp [intOf] <;> omega⟩
      | false =>
        go_wp2_with fail
        refine ⟨⟨j + 1, _, rfl, by rw [HN.out, ← HB.out]; rfl, by go_num, hlt, rfl⟩, by simp [intOf] <;> omega⟩
    · obtain rfl : j = s.length := by omega
      have HD := hid (show b = decide ((45 : UInt8) ∈ s) by rw [HB.out, List.take_length])
      clear HB
      by_cases h16 : s.length = 16
      · have q16 : ((s.length : Int) == 16) = true := by rw [h16]; rfl
        cases b with
        | true =>
          clear h16 HD
          go_upto_region 11 with fail
          have HFc := hid (HF.out)
          clear HF
          have hmay := fun u => rmayc_any t x p k u HL.out
          cases hm : mayC t x p k with
          | false =>
            rw [hm] at hmay
            clear hm
            go_wp2_with (first
              | (refine at_load 29 (by rfl) ?_; refine wpList_loadE rfl rfl (HFc.out.loadCv 0 rfl HL.out) rfl ?_)
              | (go_at_call 18; refine (hmay _).mono ?_; rintro e w6 ⟨rfl, hb6⟩; have HF6 := hid (HFc.out.call hb6); clear hb6)
              | (go_at_call 13; refine (bworks_any _).mono ?_; rintro e w7 ⟨rfl, hb7⟩; have HF7 := hid (HF6.out.call hb7); clear hb7))
            go_ret
            exact ⟨rfl, HF7.out.bel⟩
          | true =>
            have hmul := fun u => btextmulti_any t x p k u HL.out
            have hback := fun u => breadmulti_any (multiT t x p k) u HSM.out
            rw [multi_back HL.out.1 HL.out.2.1 HL.out.2.2 hm] at hback
            unfold cxOut at hback
            simp only at hback
            have htext := fun u => btextone_any t x p k u HL.out
            have hone := fun u => breadone_any (oneT t x p k) u (by have := one_le (k := k) HL.out; omega)
            have HOB := hid (fun hn => one_back (k := k) HL.out.1 HL.out.2.1 HL.out.2.2 hm hn)
            rw [hm] at hmay
            clear hm
            generalize multiT t x p k = m at *
            generalize oneT t x p k = O at *
            have qN := fun u => run_neq_cv u k k t x p t x p HL.out.1 HL.out.2.1 HL.out.2.2 HL.out.1 HL.out.2.1 HL.out.2.2
            simp only [cvq_self] at qN
            have HLQ := hid (show Okc t x (if k = 0 then zb 8 else p) by refine ⟨HL.out.1, HL.out.2.1, ?_⟩; split; exact zb_length 8; exact HL.out.2.2)
            go_upto_region 17 with (first
              | (refine at_load 29 (by rfl) ?_; refine wpList_loadE rfl rfl (HFc.out.loadCv 0 rfl HL.out) rfl ?_)
              | (go_at_call 18; refine (hmay _).mono ?_; rintro e w6 ⟨rfl, hb6⟩; have HF6 := hid (HFc.out.call hb6); clear hb6)
              | (refine at_load 29 (by rfl) ?_; refine wpList_loadE rfl rfl (HF6.out.loadCv 0 rfl HL.out) rfl ?_)
              | (go_at_call 16; refine (hmul _).mono ?_; rintro e w7 ⟨rfl, hb7⟩; have HF7 := hid (HF6.out.call hb7); clear hb7)
              | (go_at_call 11; refine (hback _).mono ?_; rintro e w8 ⟨rfl, hb8⟩; have HF8 := hid ((HF7.out.call hb8).new0 29 rfl); clear hb8)
              | (refine at_store 29 (by rfl) ?_; refine wpList_putCv HF8.out 1 rfl rfl rfl okc_zero HL.out rfl rfl ?_; intro w9 h9; have HF9 := hid h9; clear h9)
              | (refine at_load 29 (by rfl) ?_; refine wpList_loadW (by rfl) rfl (HF9.out.loadCv 1 rfl HL.out) rfl ?_)
              | (refine at_load 29 (by rfl) ?_; refine wpList_loadW (by rfl) rfl (HF9.out.loadCv 0 rfl HL.out) rfl ?_)
              | (refine at_load 29 (by rfl) ?_; refine wpList_loadE rfl rfl (HF9.out.loadCv 0 rfl HL.out) rfl ?_)
              | (go_at_call 14; refine (htext _).mono ?_; rintro e wa ⟨rfl, hba⟩; have HFa := hid (HF9.out.call hba); clear hba))
            clear hmul hback htext hmay qN HLQ
            by_cases ho : O = []
            · subst ho
              go_wp2_with ((go_at_call 13; refine (bworks_any _).mono ?_; rintro e wb ⟨rfl, hbb⟩; have HFb := hid (HFa.out.call hbb); clear hbb))
              go_ret
              exact ⟨rfl, HFb.out.bel⟩
            · have qo : (O == []) = false := by simpa using ho
              have hr := HOB.out ho
              simp only [hr] at hone
              unfold cxOut at hone
              simp only at hone
              clear hr HOB ho
              by_cases hk : k = 0
              · subst hk
                simp only [if_true] at hone
                have HZ := hid (⟨HL.out.1, HL.out.2.1, zb_length 8⟩ : Okc t x (zb 8))
                have qE := fun u => run_eq_cv u 0 0 t x (zb 8) t x (zb 8) HZ.out.1 HZ.out.2.1 HZ.out.2.2 HZ.out.1 HZ.out.2.1 HZ.out.2.2
                simp only [cvq_self] at qE
                have kc := HFa.out.cellK 0 rfl HL.out
                go_wp2_with (first
                  | (refine at_store 27 (by rfl) ?_; refine wpList_putP HFa.out 0 (q := zb 8) rfl rfl rfl HL.out (zb_length 8) rfl rfl ?_; intro wb hb'; have HFb := hid hb'; clear hb')
                  | (go_at_call 9; (with_reducible refine (hone _).mono ?_); rintro e wd ⟨rfl, hbd⟩; have HFd := hid ((HFb.out.call hbd).new0 29 rfl); clear hbd)
                  | (refine at_store 29 (by rfl) ?_; refine wpList_putCv HFd.out 2 rfl rfl rfl okc_zero HZ.out rfl rfl ?_; intro we he; have HFe := hid he; clear he)
                  | (refine at_load 29 (by rfl) ?_; refine wpList_loadW (by rfl) rfl (HFe.out.loadCv 2 rfl HZ.out) rfl ?_)
                  | (refine at_load 29 (by rfl) ?_; refine wpList_loadW (by rfl) rfl (HFe.out.loadCv 0 rfl HZ.out) rfl ?_)
                  | (go_at_call 13; refine (bworks_any _).mono ?_; rintro e wf ⟨rfl, hbf⟩; have HFf := hid (HFe.out.call hbf); clear hbf))
                go_ret
                exact ⟨rfl, HFf.out.bel⟩
              · have qk : (k == 0) = false := by rw [beq_eq_false_iff_ne]; exact hk
                simp only [if_neg hk] at hone
                clear hk
                have qE := fun u => run_eq_cv u k k t x p t x p HL.out.1 HL.out.2.1 HL.out.2.2 HL.out.1 HL.out.2.1 HL.out.2.2
                simp only [cvq_self] at qE
                have kc := HFa.out.cellK 0 rfl HL.out
                go_wp2_with (first
                  | (go_at_call 9; (with_reducible refine (hone _).mono ?_); rintro e wd ⟨rfl, hbd⟩; have HFd := hid ((HFa.out.call hbd).new0 29 rfl); clear hbd)
                  | (refine at_store 29 (by rfl) ?_; refine wpList_putCv HFd.out 2 rfl rfl rfl okc_zero HL.out rfl rfl ?_; intro we he; have HFe := hid he; clear he)
                  | (refine at_load 29 (by rfl) ?_; refine wpList_loadW (by rfl) rfl (HFe.out.loadCv 2 rfl HL.out) rfl ?_)
                  | (refine at_load 29 (by rfl) ?_; refine wpList_loadW (by rfl) rfl (HFe.out.loadCv 0 rfl HL.out) rfl ?_)
                  | (go_at_call 13; refine (bworks_any _).mono ?_; rintro e wf ⟨rfl, hbf⟩; have HFf := hid (HFe.out.call hbf); clear hbf))
                go_ret
                exact ⟨rfl, HFf.out.bel⟩
        | false =>
          have hnd : (45 : UInt8) ∉ s := by simpa using HD.out.symm
          have hpad := one_pad h16 hnd
          obtain ⟨hr1, hr2, hr3⟩ : lenOk (oneR (s ++ tail16)) := lenOk_one _
          have ha := fun u => breadone_any (s ++ tail16) u (by simp [tail16]; omega)
          have hb := fun u => breadone_any (rep48 ++ s ++ tail16) u (by simp [tail16, rep48]; omega)
          rw [hpad] at hb
          unfold cxOut at ha hb
          generalize oneR (s ++ tail16) = r at ha hb hr1 hr2 hr3
          obtain ⟨T, X, P, K, C⟩ := r
          simp only at ha hb hr1 hr2 hr3
          have HR := hid (⟨hr1, hr2, hr3⟩ : Okc T X P)
          have qC := fun u => run_neq_cv u K K T X P T X P hr1 hr2 hr3 hr1 hr2 hr3
          simp only [cvq_self] at qC
          unfold tail16 at ha
          unfold tail16 rep48 at hb
          simp only [List.append_assoc, List.cons_append, List.nil_append] at hb
          clear hr1 hr2 hr3 hpad hnd HD
          go_upto_region 11 with (first
            | (go_at_call 9; (with_reducible refine (ha _).mono ?_); rintro e w2 ⟨rfl, hb2⟩; have HF2 := hid ((HF.out.call hb2).new0 29 rfl); clear hb2)
            | (refine at_store 29 (by rfl) ?_; refine wpList_putCv HF2.out 1 rfl rfl rfl okc_zero HR.out rfl rfl ?_; intro w3 h3; have HF3 := hid h3; clear h3)
            | (go_at_call 9; (with_reducible refine (hb _).mono ?_); rintro e w4 ⟨rfl, hb4⟩; have HF4 := hid ((HF3.out.call hb4).new0 29 rfl); clear hb4)
            | (refine at_store 29 (by rfl) ?_; refine wpList_putCv HF4.out 2 rfl rfl rfl okc_zero HR.out rfl rfl ?_; intro w5 h5; have HF5 := hid h5; clear h5)
            | (refine at_load 29 (by rfl) ?_; refine wpList_loadE rfl rfl (HF5.out.loadCv 1 rfl HR.out) rfl ?_)
            | (refine at_load 29 (by rfl) ?_; refine wpList_loadE rfl rfl (HF5.out.loadCv 2 rfl HR.out) rfl ?_))
          have HFc := hid (HF5.out.head)
          clear HF HF2 HF3 HF4 HF5 ha hb qC HR
          have hmay := fun u => rmayc_any t x p k u HL.out
          cases hm : mayC t x p k with
          | false =>
            rw [hm] at hmay
            clear hm
            go_wp2_with (first
              | (refine at_load 29 (by rfl) ?_; refine wpList_loadE rfl rfl (HFc.out.loadCv 0 rfl HL.out) rfl ?_)
              | (go_at_call 18; refine (hmay _).mono ?_; rintro e w6 ⟨rfl, hb6⟩; have HF6 := hid (HFc.out.call hb6); clear hb6)
              | (go_at_call 13; refine (bworks_any _).mono ?_; rintro e w7 ⟨rfl, hb7⟩; have HF7 := hid (HF6.out.call hb7); clear hb7))
            go_ret
            exact ⟨rfl, HF7.out.bel⟩
          | true =>
            have hmul := fun u => btextmulti_any t x p k u HL.out
            have hback := fun u => breadmulti_any (multiT t x p k) u HSM.out
            rw [multi_back HL.out.1 HL.out.2.1 HL.out.2.2 hm] at hback
            unfold cxOut at hback
            simp only at hback
            have htext := fun u => btextone_any t x p k u HL.out
            have hone := fun u => breadone_any (oneT t x p k) u (by have := one_le (k := k) HL.out; omega)
            have HOB := hid (fun hn => one_back (k := k) HL.out.1 HL.out.2.1 HL.out.2.2 hm hn)
            rw [hm] at hmay
            clear hm
            generalize multiT t x p k = m at *
            generalize oneT t x p k = O at *
            have qN := fun u => run_neq_cv u k k t x p t x p HL.out.1 HL.out.2.1 HL.out.2.2 HL.out.1 HL.out.2.1 HL.out.2.2
            simp only [cvq_self] at qN
            have HLQ := hid (show Okc t x (if k = 0 then zb 8 else p) by refine ⟨HL.out.1, HL.out.2.1, ?_⟩; split; exact zb_length 8; exact HL.out.2.2)
            go_upto_region 17 with (first
              | (refine at_load 29 (by rfl) ?_; refine wpList_loadE rfl rfl (HFc.out.loadCv 0 rfl HL.out) rfl ?_)
              | (go_at_call 18; refine (hmay _).mono ?_; rintro e w6 ⟨rfl, hb6⟩; have HF6 := hid (HFc.out.call hb6); clear hb6)
              | (refine at_load 29 (by rfl) ?_; refine wpList_loadE rfl rfl (HF6.out.loadCv 0 rfl HL.out) rfl ?_)
              | (go_at_call 16; refine (hmul _).mono ?_; rintro e w7 ⟨rfl, hb7⟩; have HF7 := hid (HF6.out.call hb7); clear hb7)
              | (go_at_call 11; refine (hback _).mono ?_; rintro e w8 ⟨rfl, hb8⟩; have HF8 := hid ((HF7.out.call hb8).new0 29 rfl); clear hb8)
              | (refine at_store 29 (by rfl) ?_; refine wpList_putCv HF8.out 1 rfl rfl rfl okc_zero HL.out rfl rfl ?_; intro w9 h9; have HF9 := hid h9; clear h9)
              | (refine at_load 29 (by rfl) ?_; refine wpList_loadW (by rfl) rfl (HF9.out.loadCv 1 rfl HL.out) rfl ?_)
              | (refine at_load 29 (by rfl) ?_; refine wpList_loadW (by rfl) rfl (HF9.out.loadCv 0 rfl HL.out) rfl ?_)
              | (refine at_load 29 (by rfl) ?_; refine wpList_loadE rfl rfl (HF9.out.loadCv 0 rfl HL.out) rfl ?_)
              | (go_at_call 14; refine (htext _).mono ?_; rintro e wa ⟨rfl, hba⟩; have HFa := hid (HF9.out.call hba); clear hba))
            clear hmul hback htext hmay qN HLQ
            by_cases ho : O = []
            · subst ho
              go_wp2_with ((go_at_call 13; refine (bworks_any _).mono ?_; rintro e wb ⟨rfl, hbb⟩; have HFb := hid (HFa.out.call hbb); clear hbb))
              go_ret
              exact ⟨rfl, HFb.out.bel⟩
            · have qo : (O == []) = false := by simpa using ho
              have hr := HOB.out ho
              simp only [hr] at hone
              unfold cxOut at hone
              simp only at hone
              clear hr HOB ho
              by_cases hk : k = 0
              · subst hk
                simp only [if_true] at hone
                have HZ := hid (⟨HL.out.1, HL.out.2.1, zb_length 8⟩ : Okc t x (zb 8))
                have qE := fun u => run_eq_cv u 0 0 t x (zb 8) t x (zb 8) HZ.out.1 HZ.out.2.1 HZ.out.2.2 HZ.out.1 HZ.out.2.1 HZ.out.2.2
                simp only [cvq_self] at qE
                have kc := HFa.out.cellK 0 rfl HL.out
                go_wp2_with (first
                  | (refine at_store 27 (by rfl) ?_; refine wpList_putP HFa.out 0 (q := zb 8) rfl rfl rfl HL.out (zb_length 8) rfl rfl ?_; intro wb hb'; have HFb := hid hb'; clear hb')
                  | (go_at_call 9; (with_reducible refine (hone _).mono ?_); rintro e wd ⟨rfl, hbd⟩; have HFd := hid ((HFb.out.call hbd).new0 29 rfl); clear hbd)
                  | (refine at_store 29 (by rfl) ?_; refine wpList_putCv HFd.out 2 rfl rfl rfl okc_zero HZ.out rfl rfl ?_; intro we he; have HFe := hid he; clear he)
                  | (refine at_load 29 (by rfl) ?_; refine wpList_loadW (by rfl) rfl (HFe.out.loadCv 2 rfl HZ.out) rfl ?_)
                  | (refine at_load 29 (by rfl) ?_; refine wpList_loadW (by rfl) rfl (HFe.out.loadCv 0 rfl HZ.out) rfl ?_)
                  | (go_at_call 13; refine (bworks_any _).mono ?_; rintro e wf ⟨rfl, hbf⟩; have HFf := hid (HFe.out.call hbf); clear hbf))
                go_ret
                exact ⟨rfl, HFf.out.bel⟩
              · have qk : (k == 0) = false := by rw [beq_eq_false_iff_ne]; exact hk
                simp only [if_neg hk] at hone
                clear hk
                have qE := fun u => run_eq_cv u k k t x p t x p HL.out.1 HL.out.2.1 HL.out.2.2 HL.out.1 HL.out.2.1 HL.out.2.2
                simp only [cvq_self] at qE
                have kc := HFa.out.cellK 0 rfl HL.out
                go_wp2_with (first
                  | (go_at_call 9; (with_reducible refine (hone _).mono ?_); rintro e wd ⟨rfl, hbd⟩; have HFd := hid ((HFa.out.call hbd).new0 29 rfl); clear hbd)
                  | (refine at_store 29 (by rfl) ?_; refine wpList_putCv HFd.out 2 rfl rfl rfl okc_zero HL.out rfl rfl ?_; intro we he; have HFe := hid he; clear he)
                  | (refine at_load 29 (by rfl) ?_; refine wpList_loadW (by rfl) rfl (HFe.out.loadCv 2 rfl HL.out) rfl ?_)
                  | (refine at_load 29 (by rfl) ?_; refine wpList_loadW (by rfl) rfl (HFe.out.loadCv 0 rfl HL.out) rfl ?_)
                  | (go_at_call 13; refine (bworks_any _).mono ?_; rintro e wf ⟨rfl, hbf⟩; have HFf := hid (HFe.out.call hbf); clear hbf))
                go_ret
                exact ⟨rfl, HFf.out.bel⟩
      · have q16 : ((s.length : Int) == 16) = false := by rw [beq_eq_false_iff_ne]; omega
        clear HD
        go_upto_region 11 with fail
        have HFc := hid (HF.out)
        clear HF
        have hmay := fun u => rmayc_any t x p k u HL.out
        cases hm : mayC t x p k with
        | false =>
          rw [hm] at hmay
          clear hm
          go_wp2_with (first
            | (refine at_load 29 (by rfl) ?_; refine wpList_loadE rfl rfl (HFc.out.loadCv 0 rfl HL.out) rfl ?_)
            | (go_at_call 18; refine (hmay _).mono ?_; rintro e w6 ⟨rfl, hb6⟩; have HF6 := hid (HFc.out.call hb6); clear hb6)
            | (go_at_call 13; refine (bworks_any _).mono ?_; rintro e w7 ⟨rfl, hb7⟩; have HF7 := hid (HF6.out.call hb7); clear hb7))
          go_ret
          exact ⟨rfl, HF7.out.bel⟩
        | true =>
          have hmul := fun u => btextmulti_any t x p k u HL.out
          have hback := fun u => breadmulti_any (multiT t x p k) u HSM.out
          rw [multi_back HL.out.1 HL.out.2.1 HL.out.2.2 hm] at hback
          unfold cxOut at hback
          simp only at hback
          have htext := fun u => btextone_any t x p k u HL.out
          have hone := fun u => breadone_any (oneT t x p k) u (by have := one_le (k := k) HL.out; omega)
          have HOB := hid (fun hn => one_back (k := k) HL.out.1 HL.out.2.1 HL.out.2.2 hm hn)
          rw [hm] at hmay
          clear hm
          generalize multiT t x p k = m at *
          generalize oneT t x p k = O at *
          have qN := fun u => run_neq_cv u k k t x p t x p HL.out.1 HL.out.2.1 HL.out.2.2 HL.out.1 HL.out.2.1 HL.out.2.2
          simp only [cvq_self] at qN
          have HLQ := hid (show Okc t x (if k = 0 then zb 8 else p) by refine ⟨HL.out.1, HL.out.2.1, ?_⟩; split; exact zb_length 8; exact HL.out.2.2)
          go_upto_region 17 with (first
            | (refine at_load 29 (by rfl) ?_; refine wpList_loadE rfl rfl (HFc.out.loadCv 0 rfl HL.out) rfl ?_)
            | (go_at_call 18; refine (hmay _).mono ?_; rintro e w6 ⟨rfl, hb6⟩; have HF6 := hid (HFc.out.call hb6); clear hb6)
            | (refine at_load 29 (by rfl) ?_; refine wpList_loadE rfl rfl (HF6.out.loadCv 0 rfl HL.out) rfl ?_)
            | (go_at_call 16; refine (hmul _).mono ?_; rintro e w7 ⟨rfl, hb7⟩; have HF7 := hid (HF6.out.call hb7); clear hb7)
            | (go_at_call 11; refine (hback _).mono ?_; rintro e w8 ⟨rfl, hb8⟩; have HF8 := hid ((HF7.out.call hb8).new0 29 rfl); clear hb8)
            | (refine at_store 29 (by rfl) ?_; refine wpList_putCv HF8.out 1 rfl rfl rfl okc_zero HL.out rfl rfl ?_; intro w9 h9; have HF9 := hid h9; clear h9)
            | (refine at_load 29 (by rfl) ?_; refine wpList_loadW (by rfl) rfl (HF9.out.loadCv 1 rfl HL.out) rfl ?_)
            | (refine at_load 29 (by rfl) ?_; refine wpList_loadW (by rfl) rfl (HF9.out.loadCv 0 rfl HL.out) rfl ?_)
            | (refine at_load 29 (by rfl) ?_; refine wpList_loadE rfl rfl (HF9.out.loadCv 0 rfl HL.out) rfl ?_)
            | (go_at_call 14; refine (htext _).mono ?_; rintro e wa ⟨rfl, hba⟩; have HFa := hid (HF9.out.call hba); clear hba))
          clear hmul hback htext hmay qN HLQ
          by_cases ho : O = []
          · subst ho
            go_wp2_with ((go_at_call 13; refine (bworks_any _).mono ?_; rintro e wb ⟨rfl, hbb⟩; have HFb := hid (HFa.out.call hbb); clear hbb))
            go_ret
            exact ⟨rfl, HFb.out.bel⟩
          · have qo : (O == []) = false := by simpa using ho
            have hr := HOB.out ho
            simp only [hr] at hone
            unfold cxOut at hone
            simp only at hone
            clear hr HOB ho
            by_cases hk : k = 0
            · subst hk
              simp only [if_true] at hone
              have HZ := hid (⟨HL.out.1, HL.out.2.1, zb_length 8⟩ : Okc t x (zb 8))
              have qE := fun u => run_eq_cv u 0 0 t x (zb 8) t x (zb 8) HZ.out.1 HZ.out.2.1 HZ.out.2.2 HZ.out.1 HZ.out.2.1 HZ.out.2.2
              simp only [cvq_self] at qE
              have kc := HFa.out.cellK 0 rfl HL.out
              go_wp2_with (first
                | (refine at_store 27 (by rfl) ?_; refine wpList_putP HFa.out 0 (q := zb 8) rfl rfl rfl HL.out (zb_length 8) rfl rfl ?_; intro wb hb'; have HFb := hid hb'; clear hb')
                | (go_at_call 9; (with_reducible refine (hone _).mono ?_); rintro e wd ⟨rfl, hbd⟩; have HFd := hid ((HFb.out.call hbd).new0 29 rfl); clear hbd)
                | (refine at_store 29 (by rfl) ?_; refine wpList_putCv HFd.out 2 rfl rfl rfl okc_zero HZ.out rfl rfl ?_; intro we he; have HFe := hid he; clear he)
                | (refine at_load 29 (by rfl) ?_; refine wpList_loadW (by rfl) rfl (HFe.out.loadCv 2 rfl HZ.out) rfl ?_)
                | (refine at_load 29 (by rfl) ?_; refine wpList_loadW (by rfl) rfl (HFe.out.loadCv 0 rfl HZ.out) rfl ?_)
                | (go_at_call 13; refine (bworks_any _).mono ?_; rintro e wf ⟨rfl, hbf⟩; have HFf := hid (HFe.out.call hbf); clear hbf))
              go_ret
              exact ⟨rfl, HFf.out.bel⟩
            · have qk : (k == 0) = false := by rw [beq_eq_false_iff_ne]; exact hk
              simp only [if_neg hk] at hone
              clear hk
              have qE := fun u => run_eq_cv u k k t x p t x p HL.out.1 HL.out.2.1 HL.out.2.2 HL.out.1 HL.out.2.1 HL.out.2.2
              simp only [cvq_self] at qE
              have kc := HFa.out.cellK 0 rfl HL.out
              go_wp2_with (first
                | (go_at_call 9; (with_reducible refine (hone _).mono ?_); rintro e wd ⟨rfl, hbd⟩; have HFd := hid ((HFa.out.call hbd).new0 29 rfl); clear hbd)
                | (refine at_store 29 (by rfl) ?_; refine wpList_putCv HFd.out 2 rfl rfl rfl okc_zero HL.out rfl rfl ?_; intro we he; have HFe := hid he; clear he)
                | (refine at_load 29 (by rfl) ?_; refine wpList_loadW (by rfl) rfl (HFe.out.loadCv 2 rfl HL.out) rfl ?_)
                | (refine at_load 29 (by rfl) ?_; refine wpList_loadW (by rfl) rfl (HFe.out.loadCv 0 rfl HL.out) rfl ?_)
                | (go_at_call 13; refine (bworks_any _).mono ?_; rintro e wf ⟨rfl, hbf⟩; have HFf := hid (HFe.out.call hbf); clear hbf))
              go_ret
              exact ⟨rfl, HFf.out.bel⟩
end Go.Proofs.YtgfdmdikiickpaaDoor
