/-
  The law IdentReads.
-/
import Derived.Test.YtdjbgojdkaipfaaIdentLaw
import Derived.Deep.DeepCutAuto
namespace Go.Proofs.Ytdjbgojdkaipfaa
open Go.RowKit

/-- The four names that were read, in memory. -/
structure Jn (w wr : World) (g3 g5 g7 g9 : Nat) (T X : List UInt8) : Prop where
  a : Blk wr g3 39 (b8s T).toArray
  b : Blk wr g5 39 (b8s T).toArray
  c : Blk wr g7 41 (b8s X).toArray
  d : Blk wr g9 41 (b8s X).toArray
  bel : Below w.heap.size w wr
theorem Jn.ext {w wr w' : World} {g3 g5 g7 g9 : Nat} {T X : List UInt8} (h : Jn w wr g3 g5 g7 g9 T X) (k : Below wr.heap.size wr w') : Jn w w' g3 g5 g7 g9 T X :=
  ⟨Blk.below h.a k (Blk.lt h.a), Blk.below h.b k (Blk.lt h.b), Blk.below h.c k (Blk.lt h.c), Blk.below h.d k (Blk.lt h.d), h.bel.trans (k.mono h.bel.size)⟩
theorem trace_back (s : List UInt8) (h : traceC s = 0) : (s.length = 32 ∧ hexEnc (traceT s) = s) ∨ (s.length = 16 ∧ hexEnc (traceT s) = rep48 ++ s) := by
  unfold traceC at h
  unfold traceT
  cases hd : hexDec s with
  | none => rw [hd] at h; exact absurd (show (3 : Int) = 0 from h) (by decide)
  | some b =>
    have hl := hexDec_length s b hd
    have he := hexEnc_dec s b hd
    rw [hd] at h
    simp only [] at h ⊢
    by_cases h1 : s.length = 32 ∨ s.length = 16
    case neg => rw [if_neg h1] at h; exact absurd h (by decide)
    rw [if_pos h1]
    rcases h1 with h1 | h1
    · left
      rw [show 16 - b.length = 0 by omega]
      exact ⟨h1, he⟩
    · right
      rw [show 16 - b.length = 8 by omega, hexEnc_append, he]
      exact ⟨h1, congrArg (· ++ s) (by decide)⟩
theorem span_back (s : List UInt8) (h : spanC s = 0) : hexEnc (spanT s) = s := by
  unfold spanC at h
  unfold spanT
  cases hd : hexDec s with
  | none => rw [hd] at h; exact absurd (show (3 : Int) = 0 from h) (by decide)
  | some b =>
    have he := hexEnc_dec s b hd
    rw [hd] at h
    simp only [] at h ⊢
    by_cases h1 : s.length = 16
    · rw [if_pos h1]; exact he
    · rw [if_neg h1] at h; exact absurd h (by decide)
set_option maxRecDepth 100000 in
set_option maxHeartbeats 8000000 in
theorem identReads_any (s : List UInt8) (w : World) (hs : s.length ≤ 140737488351232) :
    Calls Try.prog 7 #[Sv s] w fun e w' => e = .returned (.bool true) ∧ Below w.heap.size w w' := by
  have hT16 := traceT_length s
  have hX8 := spanT_length s
  have hTB := trace_back s
  have hXB := span_back s
  generalize hT : traceT s = T at hT16 hTB
  generalize htc : traceC s = tc at hTB
  generalize hX : spanT s = X at hX8 hXB
  generalize hxc : spanC s = xc at hXB
  have HT := hid hT
  have HTC := hid htc
  have HX := hid hX
  have HXC := hid hxc
  have HTB := hid hTB
  have HXB := hid hXB
  clear hT htc hX hxc hTB hXB
  go_enter Try.func7, Try.ntmps7
  go_wp2_with fail
  refine (readtrace_any s _ (by omega)).mono ?_; rintro e w1 ⟨rfl, hw1⟩
  rw [HT.out, HTC.out]
  have HN1 := hid (show Blk (w1.alloc (.cells #[.int .u8 0, .int .u8 0, .int .u8 0, .int .u8 0, .int .u8 0, .int .u8 0, .int .u8 0, .int .u8 0, .int .u8 0, .int .u8 0, .int .u8 0, .int .u8 0, .int .u8 0, .int .u8 0, .int .u8 0, .int .u8 0] 39)) w1.heap.size 39 (b8s (zb 16)).toArray from Blk.new w1 _ _)
  have hb1a := ext_alloc w1 (.cells #[.int .u8 0, .int .u8 0, .int .u8 0, .int .u8 0, .int .u8 0, .int .u8 0, .int .u8 0, .int .u8 0, .int .u8 0, .int .u8 0, .int .u8 0, .int .u8 0, .int .u8 0, .int .u8 0, .int .u8 0, .int .u8 0] 39)
  have HB1 := hid (ext_trans hw1 hb1a)
  have hsz1 : w.heap.size ≤ w1.heap.size := hw1.size
  clear hw1 hb1a
  go_wp2_with (refine wpList_store_av rfl 39 (.tmp 3) (.tmp 14) rfl w1.heap.size 16 T (zb 16) _ rfl rfl HN1.out info_trace hT16 (zb_length 16) ?_; intro w10 hw10 hA10; have D1 := hid hA10; have HBs1 := hid (show Below w.heap.size w w10 by rw [hw10]; exact setRow_below HB1.out hsz1 _); clear hw10 hA10)
  clear HN1 HB1
  refine (rreadtrace_any s _ (by omega)).mono ?_; rintro e w2 ⟨rfl, hw2⟩
  rw [HT.out, HTC.out]
  have HN2 := hid (show Blk (w2.alloc (.cells #[.int .u8 0, .int .u8 0, .int .u8 0, .int .u8 0, .int .u8 0, .int .u8 0, .int .u8 0, .int .u8 0, .int .u8 0, .int .u8 0, .int .u8 0, .int .u8 0, .int .u8 0, .int .u8 0, .int .u8 0, .int .u8 0] 39)) w2.heap.size 39 (b8s (zb 16)).toArray from Blk.new w2 _ _)
  have hb2a := ext_alloc w2 (.cells #[.int .u8 0, .int .u8 0, .int .u8 0, .int .u8 0, .int .u8 0, .int .u8 0, .int .u8 0, .int .u8 0, .int .u8 0, .int .u8 0, .int .u8 0, .int .u8 0, .int .u8 0, .int .u8 0, .int .u8 0, .int .u8 0] 39)
  have B12 := hid (Blk.below (Blk.below D1.out hw2 (Blk.lt D1.out)) hb2a (Blk.lt (Blk.below D1.out hw2 (Blk.lt D1.out))))
  have hneB12 : w2.heap.size ≠ w1.heap.size := (Nat.ne_of_lt (Blk.lt (Blk.below D1.out hw2 (Blk.lt D1.out)))).symm
  have HB2 := hid (HBs1.out.trans ((ext_trans hw2 hb2a).mono HBs1.out.size))
  have hsz2 : w.heap.size ≤ w2.heap.size := Nat.le_trans HBs1.out.size hw2.size
  clear hw2 hb2a
  go_wp2_with (refine wpList_store_av rfl 39 (.tmp 5) (.tmp 19) rfl w2.heap.size 16 T (zb 16) _ rfl rfl HN2.out info_trace hT16 (zb_length 16) ?_; intro w20 hw20 hA20; have D2 := hid hA20; have HBs2 := hid (show Below w.heap.size w w20 by rw [hw20]; exact setRow_below HB2.out hsz2 _); have EB12 := hid (show Blk w20 w1.heap.size _ _ by rw [hw20]; exact setRow_far B12.out hneB12); clear hw20 hA20)
  clear HN2 HB2 B12
  refine (readspan_any s _ (by omega)).mono ?_; rintro e w3 ⟨rfl, hw3⟩
  rw [HX.out, HXC.out]
  have HN3 := hid (show Blk (w3.alloc (.cells #[.int .u8 0, .int .u8 0, .int .u8 0, .int .u8 0, .int .u8 0, .int .u8 0, .int .u8 0, .int .u8 0] 41)) w3.heap.size 41 (b8s (zb 8)).toArray from Blk.new w3 _ _)
  have hb3a := ext_alloc w3 (.cells #[.int .u8 0, .int .u8 0, .int .u8 0, .int .u8 0, .int .u8 0, .int .u8 0, .int .u8 0, .int .u8 0] 41)
  have B13 := hid (Blk.below (Blk.below EB12.out hw3 (Blk.lt EB12.out)) hb3a (Blk.lt (Blk.below EB12.out hw3 (Blk.lt EB12.out))))
  have hneB13 : w3.heap.size ≠ w1.heap.size := (Nat.ne_of_lt (Blk.lt (Blk.below EB12.out hw3 (Blk.lt EB12.out)))).symm
  have B23 := hid (Blk.below (Blk.below D2.out hw3 (Blk.lt D2.out)) hb3a (Blk.lt (Blk.below D2.out hw3 (Blk.lt D2.out))))
  have hneB23 : w3.heap.size ≠ w2.heap.size := (Nat.ne_of_lt (Blk.lt (Blk.below D2.out hw3 (Blk.lt D2.out)))).symm
  have HB3 := hid (HBs2.out.trans ((ext_trans hw3 hb3a).mono HBs2.out.size))
  have hsz3 : w.heap.size ≤ w3.heap.size := Nat.le_trans HBs2.out.size hw3.size
  clear hw3 hb3a
  go_wp2_with (refine wpList_store_av rfl 41 (.tmp 7) (.tmp 24) rfl w3.heap.size 8 X (zb 8) _ rfl rfl HN3.out info_span hX8 (zb_length 8) ?_; intro w30 hw30 hA30; have D3 := hid hA30; have HBs3 := hid (show Below w.heap.size w w30 by rw [hw30]; exact setRow_below HB3.out hsz3 _); have EB13 := hid (show Blk w30 w1.heap.size _ _ by rw [hw30]; exact setRow_far B13.out hneB13); have EB23 := hid (show Blk w30 w2.heap.size _ _ by rw [hw30]; exact setRow_far B23.out hneB23); clear hw30 hA30)
  clear HN3 HB3 B13 B23
  refine (rreadspan_any s _ (by omega)).mono ?_; rintro e w4 ⟨rfl, hw4⟩
  rw [HX.out, HXC.out]
  have HN4 := hid (show Blk (w4.alloc (.cells #[.int .u8 0, .int .u8 0, .int .u8 0, .int .u8 0, .int .u8 0, .int .u8 0, .int .u8 0, .int .u8 0] 41)) w4.heap.size 41 (b8s (zb 8)).toArray from Blk.new w4 _ _)
  have hb4a := ext_alloc w4 (.cells #[.int .u8 0, .int .u8 0, .int .u8 0, .int .u8 0, .int .u8 0, .int .u8 0, .int .u8 0, .int .u8 0] 41)
  have B14 := hid (Blk.below (Blk.below EB13.out hw4 (Blk.lt EB13.out)) hb4a (Blk.lt (Blk.below EB13.out hw4 (Blk.lt EB13.out))))
  have hneB14 : w4.heap.size ≠ w1.heap.size := (Nat.ne_of_lt (Blk.lt (Blk.below EB13.out hw4 (Blk.lt EB13.out)))).symm
  have B24 := hid (Blk.below (Blk.below EB23.out hw4 (Blk.lt EB23.out)) hb4a (Blk.lt (Blk.below EB23.out hw4 (Blk.lt EB23.out))))
  have hneB24 : w4.heap.size ≠ w2.heap.size := (Nat.ne_of_lt (Blk.lt (Blk.below EB23.out hw4 (Blk.lt EB23.out)))).symm
  have B34 := hid (Blk.below (Blk.below D3.out hw4 (Blk.lt D3.out)) hb4a (Blk.lt (Blk.below D3.out hw4 (Blk.lt D3.out))))
  have hneB34 : w4.heap.size ≠ w3.heap.size := (Nat.ne_of_lt (Blk.lt (Blk.below D3.out hw4 (Blk.lt D3.out)))).symm
  have HB4 := hid (HBs3.out.trans ((ext_trans hw4 hb4a).mono HBs3.out.size))
  have hsz4 : w.heap.size ≤ w4.heap.size := Nat.le_trans HBs3.out.size hw4.size
  clear hw4 hb4a
  go_upto_region 5 with (refine wpList_store_av rfl 41 (.tmp 9) (.tmp 29) rfl w4.heap.size 8 X (zb 8) _ rfl rfl HN4.out info_span hX8 (zb_length 8) ?_; intro w40 hw40 hA40; have D4 := hid hA40; have HBs4 := hid (show Below w.heap.size w w40 by rw [hw40]; exact setRow_below HB4.out hsz4 _); have EB14 := hid (show Blk w40 w1.heap.size _ _ by rw [hw40]; exact setRow_far B14.out hneB14); have EB24 := hid (show Blk w40 w2.heap.size _ _ by rw [hw40]; exact setRow_far B24.out hneB24); have EB34 := hid (show Blk w40 w3.heap.size _ _ by rw [hw40]; exact setRow_far B34.out hneB34); clear hw40 hA40)
  clear HN4 HB4 B14 B24 B34
  have HJ := hid (Jn.mk EB14.out EB24.out EB34.out D4.out HBs4.out)
  clear EB14 EB24 EB34 D4 HBs1 HBs2 HBs3 HBs4
  have hqT : ∀ u, (binOp .neq 39 (Av T) (Av T)).run Try.prog u = .ok (.bool false) u := fun u => by
    have := run_neq_av u 39 16 Try.underlying39 T T hT16 hT16
    simpa using this
  have hqX : ∀ u, (binOp .neq 41 (Av X) (Av X)).run Try.prog u = .ok (.bool false) u := fun u => by
    have := run_neq_av u 41 8 Try.underlying41 X X hX8 hX8
    simpa using this
  have i0 : (tc != tc) = false := by simp
  have i1 : (xc != xc) = false := by simp
  go_upto_region 7 with (first
    | (refine wpList_load_av rfl 39 (.tmp 3) rfl w1.heap.size 16 T _ rfl HJ.out.a Try.underlying39 info_trace hT16 ?_)
    | (refine wpList_load_av rfl 39 (.tmp 5) rfl w2.heap.size 16 T _ rfl HJ.out.b Try.underlying39 info_trace hT16 ?_)
    | (refine wpList_load_avW rfl 41 (.tmp 7) rfl w3.heap.size 8 X _ rfl HJ.out.c Try.underlying41 info_span hX8 ?_)
    | (refine wpList_load_avW rfl 41 (.tmp 9) rfl w4.heap.size 8 X _ rfl HJ.out.d Try.underlying41 info_span hX8 ?_))
  clear hqT hqX i0 i1
  go_cut [87] (fun c wx => c = .bool false ∧ Below w.heap.size w wx)
  case first =>
    have es : (s == s) = true := by simp
    by_cases htc : tc = 0
    case neg =>
      have t0 : (tc == 0) = false := by simpa using htc
      clear htc
      by_cases hxc : xc = 0
      · have x0 : (xc == 0) = true := by simpa using hxc
        have ex := hid (HXB.out hxc)
        clear hxc
        go_wp2_with (first | (refine wpList_load_avW rfl 41 (.tmp 7) rfl w3.heap.size 8 X _ rfl HJ.out.c Try.underlying41 info_span hX8 ?_))
        refine (spantext_any X _ hX8).mono ?_; rintro e w6 ⟨rfl, hw6⟩
        rw [ex.out]
        have J6 := hid (HJ.out.ext hw6)
        clear hw6
        go_wp2_with fail
        go_meet
        exact ⟨rfl, J6.out.bel⟩
      · have x0 : (xc == 0) = false := by simpa using hxc
        clear hxc
        go_wp2_with fail
        go_meet
        exact ⟨rfl, HJ.out.bel⟩
    have t0 : (tc == 0) = true := by simpa using htc
    rcases HTB.out htc with ⟨l32, eb⟩ | ⟨l16, eb⟩
    · have d0 : ((s.length : Int) == 32) = true := by rw [l32]; rfl
      have d1 : ((s.length : Int) == 16) = false := by rw [l32]; rfl
      have EB := hid eb
      clear htc l32 eb
      go_wp2_with (first | (refine wpList_load_avW rfl 39 (.tmp 3) rfl w1.heap.size 16 T _ rfl HJ.out.a Try.underlying39 info_trace hT16 ?_))
      refine (tracetext_any T _ hT16).mono ?_; rintro e w5 ⟨rfl, hw5⟩
      rw [EB.out]
      have J5 := hid (HJ.out.ext hw5)
      clear hw5 HJ
      by_cases hxc : xc = 0
      · have x0 : (xc == 0) = true := by simpa using hxc
        have ex := hid (HXB.out hxc)
        clear hxc
        go_wp2_with (first | (refine wpList_load_avW rfl 41 (.tmp 7) rfl w3.heap.size 8 X _ rfl J5.out.c Try.underlying41 info_span hX8 ?_))
        refine (spantext_any X _ hX8).mono ?_; rintro e w6 ⟨rfl, hw6⟩
        rw [ex.out]
        have J6 := hid (J5.out.ext hw6)
        clear hw6
        go_wp2_with fail
        go_meet
        exact ⟨rfl, J6.out.bel⟩
      · have x0 : (xc == 0) = false := by simpa using hxc
        clear hxc
        go_wp2_with fail
        go_meet
        exact ⟨rfl, J5.out.bel⟩
    · have d0 : ((s.length : Int) == 32) = false := by rw [l16]; rfl
      have d1 : ((s.length : Int) == 16) = true := by rw [l16]; rfl
      have EB := hid eb
      have e48 : (rep48 ++ s == rep48 ++ s) = true := by simp
      clear htc eb
      go_wp2_with (first | (refine wpList_load_avW rfl 39 (.tmp 3) rfl w1.heap.size 16 T _ rfl HJ.out.a Try.underlying39 info_trace hT16 ?_))
      refine (tracetext_any T _ hT16).mono ?_; rintro e w5 ⟨rfl, hw5⟩
      rw [EB.out]
      have J5 := hid (HJ.out.ext hw5)
      clear hw5 HJ
      by_cases hxc : xc = 0
      · have x0 : (xc == 0) = true := by simpa using hxc
        have ex := hid (HXB.out hxc)
        clear hxc
        go_wp2_with (first | (refine wpList_load_avW rfl 41 (.tmp 7) rfl w3.heap.size 8 X _ rfl J5.out.c Try.underlying41 info_span hX8 ?_))
        refine (spantext_any X _ hX8).mono ?_; rintro e w6 ⟨rfl, hw6⟩
        rw [ex.out]
        have J6 := hid (J5.out.ext hw6)
        clear hw6
        go_wp2_with fail
        go_meet
        exact ⟨rfl, J6.out.bel⟩
      · have x0 : (xc == 0) = false := by simpa using hxc
        clear hxc
        go_wp2_with fail
        go_meet
        exact ⟨rfl, J5.out.bel⟩
  case rest =>
    obtain ⟨rfl, hbc⟩ := hcut
    have HBC := hid hbc
    clear hbc HJ
    go_wp2_with fail
    refine (iworks_any _).mono ?_; rintro e w5 ⟨rfl, hw5⟩
    go_wp2_with fail
    go_ret
    exact ⟨rfl, HBC.out.trans (hw5.mono HBC.out.size)⟩
end Go.Proofs.Ytdjbgojdkaipfaa
