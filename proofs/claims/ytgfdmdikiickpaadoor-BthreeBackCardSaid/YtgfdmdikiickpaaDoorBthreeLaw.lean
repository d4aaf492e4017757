/-
  The laws of chapter 45: what they do first (works).
-/
import Derived.Test.YtgfdmdikiickpaaDoorBthreeI
import Derived.Test.YtgfdmdikiickpaaDoorBthreeE
namespace Go.Proofs.YtgfdmdikiickpaaDoor
open Go.RowKit

def bT0 : List UInt8 := [0, 0, 0, 0, 0, 0, 0, 0, 128, 241, 152, 238, 86, 52, 59, 168]
def bX0 : List UInt8 := [228, 87, 181, 162, 228, 216, 107, 209]
def bS0 : List UInt8 := [56, 48, 102, 49, 57, 56, 101, 101, 53, 54, 51, 52, 51, 98, 97, 56, 45, 101, 52, 53, 55, 98, 53, 97, 50, 101, 52, 100, 56, 54, 98, 100, 49, 45, 100]
def bE0 : List UInt8 := [48, 48, 48, 48, 48, 48, 48, 48, 48, 48, 48, 48, 48, 48, 48, 48, 56, 48, 102, 49, 57, 56, 101, 101, 53, 54, 51, 52, 51, 98, 97, 56]
def bD0 : List UInt8 := [101, 52, 53, 55, 98, 53, 97, 50, 101, 52, 100, 56, 54, 98, 100, 49]
theorem bok : Okc bT0 bX0 (zb 8) := ⟨rfl, rfl, zb_length 8⟩
theorem bread0 (w : World) : Calls Tryd.prog 9 #[Sv bS0] w fun e w' => e = .returned (.tuple #[Cv bT0 bX0 (zb 8) 3, .int .i64 0]) ∧ Below w.heap.size w w' := by
  have h := breadone_any bS0 w (by decide)
  rw [show oneR bS0 = (bT0, bX0, zb 8, 3, 0) by decide +kernel] at h
  exact h
theorem bread1 (w : World) : Calls Tryd.prog 9 #[Sv [49, 45, 50, 45, 51]] w fun e w' => e = .returned (.tuple #[Cv (zb 16) (zb 8) (zb 8) 0, .int .i64 3]) ∧ Below w.heap.size w w' := by
  have h := breadone_any [49, 45, 50, 45, 51] w (by decide)
  rw [show oneR [49, 45, 50, 45, 51] = cxBad 3 by decide +kernel] at h
  exact h
theorem bread2 (w : World) : Calls Tryd.prog 9 #[Sv []] w fun e w' => e = .returned (.tuple #[Cv (zb 16) (zb 8) (zb 8) 0, .int .i64 3]) ∧ Below w.heap.size w w' := by
  have h := breadone_any [] w (by decide)
  rw [show oneR [] = cxBad 3 by decide +kernel] at h
  exact h
theorem bread3 (w : World) : Calls Tryd.prog 9 #[Sv [48]] w fun e w' => e = .returned (.tuple #[Cv (zb 16) (zb 8) (zb 8) 1, .int .i64 0]) ∧ Below w.heap.size w w' := by
  have h := breadone_any [48] w (by decide)
  rw [show oneR [48] = (zb 16, zb 8, zb 8, 1, 0) by decide +kernel] at h
  exact h
def bM0 : Mu := (bE0, bD0, [], [], [49])
theorem btext0 (w : World) : Calls Tryd.prog 16 #[Cv bT0 bX0 (zb 8) 3] w fun e w' => e = .returned (Mv bM0) ∧ Below w.heap.size w w' := by
  have h := btextmulti_any bT0 bX0 (zb 8) 3 w bok
  rw [show multiT bT0 bX0 (zb 8) 3 = bM0 by decide +kernel] at h
  exact h
theorem bmul0 (w : World) : Calls Tryd.prog 11 #[Mv bM0] w fun e w' => e = .returned (.tuple #[Cv bT0 bX0 (zb 8) 3, .int .i64 0]) ∧ Below w.heap.size w w' := by
  have h := breadmulti_any bM0 w ⟨by decide, by decide, by decide⟩
  rw [show multiR bM0 = (bT0, bX0, zb 8, 3, 0) by decide +kernel] at h
  exact h
def bM1 : Mu := ([], bD0, [], [], [])
theorem bmul1 (w : World) : Calls Tryd.prog 11 #[Mv bM1] w fun e w' => e = .returned (.tuple #[Cv (zb 16) (zb 8) (zb 8) 0, .int .i64 9]) ∧ Below w.heap.size w w' := by
  have h := breadmulti_any bM1 w ⟨by decide, by decide, by decide⟩
  rw [show multiR bM1 = cxBad 9 by decide +kernel] at h
  exact h
def bO0 : List UInt8 := [48, 48, 48, 48, 48, 48, 48, 48, 48, 48, 48, 48, 48, 48, 48, 48, 56, 48, 102, 49, 57, 56, 101, 101, 53, 54, 51, 52, 51, 98, 97, 56, 45, 101, 52, 53, 55, 98, 53, 97, 50, 101, 52, 100, 56, 54, 98, 100, 49, 45, 100]
theorem bone0 (w : World) : Calls Tryd.prog 14 #[Cv bT0 bX0 (zb 8) 3] w fun e w' => e = .returned (Sv bO0) ∧ Below w.heap.size w w' := by
  have h := btextone_any bT0 bX0 (zb 8) 3 w bok
  rw [show oneT bT0 bX0 (zb 8) 3 = bO0 by decide +kernel] at h
  exact h
theorem bone1 (w : World) : Calls Tryd.prog 14 #[.agg #[.int .u8 0, .int .u8 0, .int .u8 0, .int .u8 0, .int .u8 0, .int .u8 0, .int .u8 0, .int .u8 0, .int .u8 0, .int .u8 0, .int .u8 0, .int .u8 0, .int .u8 0, .int .u8 0, .int .u8 0, .int .u8 0, .int .u8 0, .int .u8 0, .int .u8 0, .int .u8 0, .int .u8 0, .int .u8 0, .int .u8 0, .int .u8 0, .int .u8 0, .int .u8 0, .int .u8 0, .int .u8 0, .int .u8 0, .int .u8 0, .int .u8 0, .int .u8 0, .int .i64 2]] w fun e w' => e = .returned (Sv [49]) ∧ Below w.heap.size w w' := by
  have h := btextone_any (zb 16) (zb 8) (zb 8) 2 w okc_zero
  rw [show oneT (zb 16) (zb 8) (zb 8) 2 = [49] by decide +kernel] at h
  exact h
theorem bone2 (w : World) : Calls Tryd.prog 14 #[.agg #[.int .u8 0, .int .u8 0, .int .u8 0, .int .u8 0, .int .u8 0, .int .u8 0, .int .u8 0, .int .u8 0, .int .u8 0, .int .u8 0, .int .u8 0, .int .u8 0, .int .u8 0, .int .u8 0, .int .u8 0, .int .u8 0, .int .u8 0, .int .u8 0, .int .u8 0, .int .u8 0, .int .u8 0, .int .u8 0, .int .u8 0, .int .u8 0, .int .u8 0, .int .u8 0, .int .u8 0, .int .u8 0, .int .u8 0, .int .u8 0, .int .u8 0, .int .u8 0, .int .i64 0]] w fun e w' => e = .returned (Sv []) ∧ Below w.heap.size w w' := by
  have h := btextone_any (zb 16) (zb 8) (zb 8) 0 w okc_zero
  rw [show oneT (zb 16) (zb 8) (zb 8) 0 = [] by decide +kernel] at h
  exact h
set_option maxRecDepth 100000 in
set_option maxHeartbeats 4000000 in
theorem bworks_any (w : World) : Calls Tryd.prog 13 #[] w fun e w' => e = .returned (.bool true) ∧ Below w.heap.size w w' := by
  have HF := hid (Frm.start w)
  go_enter Tryd.func13, Tryd.ntmps13
  go_upto_region 2 with (first
    | (go_at_call 9; refine (bread0 _).mono ?_; rintro e w1 ⟨rfl, hb1⟩; have HF1 := hid ((HF.out.call hb1).new0 29 rfl); clear hb1)
    | (refine at_store 29 (by rfl) ?_; refine wpList_putCv HF1.out 0 rfl rfl rfl okc_zero bok rfl rfl ?_; intro w2 h2; have HF2 := hid h2; clear h2))
  go_upto_region 3 with (first
    | (go_at_call 9; refine (bread1 _).mono ?_; rintro e w3 ⟨rfl, hb3⟩; have HF3 := hid ((HF2.out.call hb3).new0 29 rfl); clear hb3)
    | (refine at_store 29 (by rfl) ?_; refine wpList_putCv HF3.out 1 rfl rfl rfl okc_zero okc_zero rfl rfl ?_; intro w4 h4; have HF4 := hid h4; clear h4))
  go_upto_region 4 with (first
    | (go_at_call 9; refine (bread2 _).mono ?_; rintro e w5 ⟨rfl, hb5⟩; have HF5 := hid ((HF4.out.call hb5).new0 29 rfl); clear hb5)
    | (refine at_store 29 (by rfl) ?_; refine wpList_putCv HF5.out 2 rfl rfl rfl okc_zero okc_zero rfl rfl ?_; intro w6 h6; have HF6 := hid h6; clear h6))
  go_upto_region 5 with (first
    | (go_at_call 9; refine (bread3 _).mono ?_; rintro e w7 ⟨rfl, hb7⟩; have HF7 := hid ((HF6.out.call hb7).new0 29 rfl); clear hb7)
    | (refine at_store 29 (by rfl) ?_; refine wpList_putCv HF7.out 3 rfl rfl rfl okc_zero okc_zero rfl rfl ?_; intro w8 h8; have HF8 := hid h8; clear h8))
  go_upto_region 6 with (first
    | (refine at_load 29 (by rfl) ?_; refine wpList_loadE rfl rfl (HF8.out.loadCv 0 rfl bok) rfl ?_)
    | (go_at_call 16; refine (btext0 _).mono ?_; rintro e w9 ⟨rfl, hb9⟩; have HF9 := hid ((HF8.out.call hb9).new 34 (mc muNone) rfl); clear hb9)
    | (refine at_store 34 (by rfl) ?_; refine wpList_putM HF9.out 4 muNone bM0 rfl rfl rfl rfl rfl ?_; intro wa ha; have HFa := hid ha; clear ha))
  go_upto_region 7 with (first
    | (refine at_load 34 (by rfl) ?_; refine wpList_loadE rfl rfl (HFa.out.loadMv (m := bM0) 4 rfl) rfl ?_)
    | (go_at_call 11; refine (bmul0 _).mono ?_; rintro e wb ⟨rfl, hbb⟩; have HFb := hid ((HFa.out.call hbb).new0 29 rfl); clear hbb)
    | (refine at_store 29 (by rfl) ?_; refine wpList_putCv HFb.out 5 rfl rfl rfl okc_zero bok rfl rfl ?_; intro wc hc'; have HFc := hid hc'; clear hc'))
  go_upto_region 8 with (first
    | (go_at_call 11; refine (bmul1 _).mono ?_; rintro e wd ⟨rfl, hbd⟩; have HFd := hid ((HFc.out.call hbd).new0 29 rfl); clear hbd)
    | (refine at_store 29 (by rfl) ?_; refine wpList_putCv HFd.out 6 rfl rfl rfl okc_zero okc_zero rfl rfl ?_; intro we he; have HFe := hid he; clear he))
  have c0 := HFe.out.cellK 0 rfl bok
  have c3 := HFe.out.cellK 3 rfl okc_zero
  obtain ⟨m0, m1, m2, m3, m4⟩ := HFe.out.mcells 4 (m := bM0) rfl
  unfold bM0 at m0 m1 m2 m3 m4
  simp only at m0 m1 m2 m3 m4
  have qE : (bE0 == [48, 48, 48, 48, 48, 48, 48, 48, 48, 48, 48, 48, 48, 48, 48, 48, 56, 48, 102, 49, 57, 56, 101, 101, 53, 54, 51, 52, 51, 98, 97, 56]) = true := by decide
  have qO : (bO0 == [48, 48, 48, 48, 48, 48, 48, 48, 48, 48, 48, 48, 48, 48, 48, 48, 56, 48, 102, 49, 57, 56, 101, 101, 53, 54, 51, 52, 51, 98, 97, 56, 45, 101, 52, 53, 55, 98, 53, 97, 50, 101, 52, 100, 56, 54, 98, 100, 49, 45, 100]) = true := by decide
  have qC := fun u => run_eq_cv u 3 3 bT0 bX0 (zb 8) bT0 bX0 (zb 8) bok.1 bok.2.1 bok.2.2 bok.1 bok.2.1 bok.2.2
  simp only [cvq_self] at qC
  go_wp2_with (first
    | (refine at_load 29 (by rfl) ?_; refine wpList_loadW (by rfl) rfl (HFe.out.loadCv 5 rfl bok) rfl ?_)
    | (refine at_load 29 (by rfl) ?_; refine wpList_loadW (by rfl) rfl (HFe.out.loadCv 0 rfl bok) rfl ?_)
    | (go_at_call 14; (with_reducible refine (bone0 _).mono ?_); rintro e wf ⟨rfl, hbf⟩; have HFf := hid (HFe.out.call hbf); clear hbf)
    | (go_at_call 14; (with_reducible refine (bone1 _).mono ?_); rintro e wg ⟨rfl, hbg⟩; have HFg := hid (HFf.out.call hbg); clear hbg)
    | (go_at_call 14; (with_reducible refine (bone2 _).mono ?_); rintro e wh ⟨rfl, hbh⟩; have HFh := hid (HFg.out.call hbh); clear hbh))
  go_ret
  exact ⟨rfl, HFh.out.bel⟩
end Go.Proofs.YtgfdmdikiickpaaDoor
