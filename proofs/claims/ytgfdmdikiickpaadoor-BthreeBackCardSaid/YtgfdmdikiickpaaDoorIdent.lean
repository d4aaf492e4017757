/-
  Walks of package ident.
-/
import Derived.Test.YtgfdmdikiickpaaDoorAgg
import Derived.Test.YtgfdmdikiickpaaDoorHexaRef
namespace Go.Proofs.YtgfdmdikiickpaaDoor
open Go.RowKit

set_option maxRecDepth 100000 in
theorem tracetext_any (l : List UInt8) (w : World) (hl : l.length = 16) :
    Calls Tryd.prog 48 #[Av l] w fun e w' => e = .returned (Sv (hexEnc l)) ∧ Below w.heap.size w w' := by
  have hsl := fun g W => run_slice_all_arr (t := 25) (n := 16) Tryd.underlying25 g W
  have hcv := fun W => conv_box W 25 l 16 hl
  have HL := hid hl
  clear hl
  go_enter Tryd.func48, Tryd.ntmps48
  go_wp2_with fail
  refine (htext_any l _ (by rw [HL.out]; decide)).mono ?_; rintro e w1 ⟨rfl, hb1⟩
  go_wp2_with fail
  go_ret
  exact ⟨rfl, ext_trans (ext_alloc _ _) hb1⟩
set_option maxRecDepth 100000 in
theorem spantext_any (l : List UInt8) (w : World) (hl : l.length = 8) :
    Calls Tryd.prog 49 #[Av l] w fun e w' => e = .returned (Sv (hexEnc l)) ∧ Below w.heap.size w w' := by
  have hsl := fun g W => run_slice_all_arr (t := 27) (n := 8) Tryd.underlying27 g W
  have hcv := fun W => conv_box W 27 l 8 hl
  have HL := hid hl
  clear hl
  go_enter Tryd.func49, Tryd.ntmps49
  go_wp2_with fail
  refine (htext_any l _ (by rw [HL.out]; decide)).mono ?_; rintro e w1 ⟨rfl, hb1⟩
  go_wp2_with fail
  go_ret
  exact ⟨rfl, ext_trans (ext_alloc _ _) hb1⟩

/-- A trace's name of digits: its bytes, and the code. -/
def traceT (s : List UInt8) : List UInt8 := match hexDec s with
  | some b => if s.length = 32 ∨ s.length = 16 then zb (16 - b.length) ++ b else zb 16
  | none => zb 16
def traceC (s : List UInt8) : Int := match hexDec s with
  | some b => if s.length = 32 ∨ s.length = 16 then (if zb (16 - b.length) ++ b = zb 16 then 10 else 0) else 3
  | none => 3
theorem traceT_length (s : List UInt8) : (traceT s).length = 16 := by
  unfold traceT
  split
  · rename_i b h
    have := hexDec_length s b h
    split
    · rw [List.length_append, zb_length]; omega
    · simp
  · simp
theorem copied16 (b T : List UInt8) (h : b = T) (hb : b.length = 16) : List.take 0 (zb 16) ++ b ++ List.drop (0 + b.length) (zb 16) = T := by
  rw [hb, ← h]; simp [zb]
theorem copied8 (b T : List UInt8) (h : zb 8 ++ b = T) (hb : b.length = 8) : List.take 8 (zb 16) ++ b ++ List.drop (8 + b.length) (zb 16) = T := by
  rw [hb, ← h]; simp [zb]
set_option maxRecDepth 100000 in
set_option maxHeartbeats 1000000 in
theorem readtrace_any (s : List UInt8) (w : World) (hs : s.length ≤ 140737488355328) :
    Calls Tryd.prog 72 #[Sv s] w fun e w' => e = .returned (.tuple #[Av (traceT s), .int .i64 (traceC s)]) ∧ Below w.heap.size w w' := by
  have hz := zb_length 16
  cases hd : hexDec s with
  | none =>
    have HO := hid (show hexOut s = .tuple #[Sv [], .int .i64 3] by unfold hexOut; rw [hd]; rfl)
    have HT := hid (show traceT s = zb 16 by unfold traceT; rw [hd])
    have HC := hid (show traceC s = 3 by unfold traceC; rw [hd])
    have HZ := hid hz
    clear hd hz
    go_enter Tryd.func72, Tryd.ntmps72
    go_wp2_with fail
    refine (hread_any s _ hs).mono ?_; rintro e w1 ⟨rfl, hb1⟩
    rw [HO.out]
    obtain ⟨hA, hB, z0, z1, hbw⟩ := box2 hb1
    have HA : Hid (Blk w1 w.heap.size 25 (b8s (zb 16)).toArray) := hA
    have HB : Hid (Blk w1 (w.heap.size + 1) 25 (b8s (zb 16)).toArray) := hB
    have HBW := hid hbw
    clear hA hB hbw hb1
    go_wp2_with (first
      | (refine wpList_load_av rfl 25 (.tmp 4) rfl (w.heap.size + 1) 16 (zb 16) _ rfl HB.out Tryd.underlying25 info_trace HZ.out ?_)
      | (refine wpList_store_av rfl 25 (.tmp 2) (.tmp 23) rfl w.heap.size 16 (zb 16) (zb 16) _ rfl rfl HA.out info_trace HZ.out HZ.out ?_; intro w2 hw2 hA2; have HA2 := hid hA2; have HW2 := hid hw2; clear hw2 hA2))
    exact bodyPost_ret (results_av2 rfl _ _ _ _ (zb 16) rfl HA2.out Tryd.underlying25 info_trace HZ.out) rfl ⟨by rw [HT.out, HC.out]; rfl, by rw [HW2.out]; exact setRow_below HBW.out (Nat.le_refl _) _⟩
  | some b =>
    have hbl0 := hexDec_length s b hd
    by_cases h1 : s.length = 32
    · have hbl : b.length = 16 := by omega
      have HO := hid (show hexOut s = .tuple #[Sv b, .int .i64 0] by unfold hexOut; rw [hd]; rfl)
      obtain ⟨T, hT⟩ : ∃ T, b = T := ⟨_, rfl⟩
      have HT := hid (show traceT s = T by unfold traceT; rw [hd]; simp only []; rw [if_pos (.inl h1), hbl, ← hT]; rfl)
      have HC := hid (show traceC s = if T = zb 16 then 10 else 0 by unfold traceC; rw [hd]; simp only []; rw [if_pos (.inl h1), hbl, ← hT]; rfl)
      have hTl : T.length = 16 := by rw [← hT]; simp [hbl]
      have HTE := hid hT
      have HTL := hid hTl
      have hsl := fun W => run_slice_from_arr (t := 25) (n := 16) Tryd.underlying25 (w.heap.size + 1) 0 .i64 W (by omega)
      rw [if_neg (by omega)] at hsl
      have heq := fun W => run_eq_z16 W T hTl
      have HZ := hid hz
      have HBL := hid hbl
      have k1 : IntKind.i64.wrap (16 - (b.length : Int)) = 0 := by rw [hbl]; rfl
      have l1 : ((s.length : Int) != 32) = false := by rw [h1]; rfl
      have l2 : ((s.length : Int) != 16) = true := by rw [h1]; rfl
      have HH := hid h1
      clear hd hz hbl hT hTl h1 hbl0
      by_cases hz : T = zb 16
      · have he : (T == zb 16) = true := by simpa using hz
        have HZ2 := hid hz
        clear hz
        go_enter Tryd.func72, Tryd.ntmps72
        go_wp2_with fail
        refine (hread_any s _ hs).mono ?_; rintro e w1 ⟨rfl, hb1⟩
        rw [HO.out]
        obtain ⟨hA, hB, z0, z1, hbw⟩ := box2 hb1
        have HA : Hid (Blk w1 w.heap.size 25 (b8s (zb 16)).toArray) := hA
        have HB : Hid (Blk w1 (w.heap.size + 1) 25 (b8s (zb 16)).toArray) := hB
        have HBW := hid hbw
        clear hA hB hbw hb1
        go_wp2_with (first
          | (refine wpList_load_av rfl 25 (.tmp 4) rfl (w.heap.size + 1) 16 T _ rfl HB2.out Tryd.underlying25 info_trace HTL.out ?_)
          | (refine wpList_copy_str rfl (.tmp 27) (.tmp 28) rfl (w.heap.size + 1) 0 16 16 _ (zb 16) b rfl rfl HB.out (by rw [HBL.out]; omega) (by rw [HBL.out, HZ.out]; omega) ?_; intro w2 cs2 hw2 hB2; have HB2 : Hid (Blk w2 (w.heap.size + 1) 25 (b8s T).toArray) := (by rw [copied16 b T HTE.out HBL.out] at hB2; exact hB2); have HA2 : Hid (Blk w2 w.heap.size 25 (b8s (zb 16)).toArray) := (by rw [hw2]; exact setRow_far HA.out (by omega)); have HBW2 : Hid (Below w.heap.size w w2) := (by rw [hw2]; exact setRow_below HBW.out (by omega) _); clear hw2 hB2)
          | (refine wpList_store_av rfl 25 (.tmp 2) (.tmp 33) rfl w.heap.size 16 T (zb 16) _ rfl rfl HA2.out info_trace HTL.out HZ.out ?_; intro w3 hw3 hA3; have HA3 := hid hA3; have HW3 := hid hw3; clear hw3 hA3))
        exact bodyPost_ret (results_av2 rfl _ _ _ _ T rfl HA3.out Tryd.underlying25 info_trace HTL.out) rfl ⟨by rw [HT.out, HC.out, if_pos HZ2.out]; rfl, by rw [HW3.out]; exact setRow_below HBW2.out (Nat.le_refl _) _⟩
      · have he : (T == zb 16) = false := by simpa using hz
        have HZ2 := hid hz
        clear hz
        go_enter Tryd.func72, Tryd.ntmps72
        go_wp2_with fail
        refine (hread_any s _ hs).mono ?_; rintro e w1 ⟨rfl, hb1⟩
        rw [HO.out]
        obtain ⟨hA, hB, z0, z1, hbw⟩ := box2 hb1
        have HA : Hid (Blk w1 w.heap.size 25 (b8s (zb 16)).toArray) := hA
        have HB : Hid (Blk w1 (w.heap.size + 1) 25 (b8s (zb 16)).toArray) := hB
        have HBW := hid hbw
        clear hA hB hbw hb1
        go_wp2_with (first
          | (refine wpList_load_av rfl 25 (.tmp 4) rfl (w.heap.size + 1) 16 T _ rfl HB2.out Tryd.underlying25 info_trace HTL.out ?_)
          | (refine wpList_copy_str rfl (.tmp 27) (.tmp 28) rfl (w.heap.size + 1) 0 16 16 _ (zb 16) b rfl rfl HB.out (by rw [HBL.out]; omega) (by rw [HBL.out, HZ.out]; omega) ?_; intro w2 cs2 hw2 hB2; have HB2 : Hid (Blk w2 (w.heap.size + 1) 25 (b8s T).toArray) := (by rw [copied16 b T HTE.out HBL.out] at hB2; exact hB2); have HA2 : Hid (Blk w2 w.heap.size 25 (b8s (zb 16)).toArray) := (by rw [hw2]; exact setRow_far HA.out (by omega)); have HBW2 : Hid (Below w.heap.size w w2) := (by rw [hw2]; exact setRow_below HBW.out (by omega) _); clear hw2 hB2)
          | (refine wpList_store_av rfl 25 (.tmp 2) (.tmp 34) rfl w.heap.size 16 T (zb 16) _ rfl rfl HA2.out info_trace HTL.out HZ.out ?_; intro w3 hw3 hA3; have HA3 := hid hA3; have HW3 := hid hw3; clear hw3 hA3))
        exact bodyPost_ret (results_av2 rfl _ _ _ _ T rfl HA3.out Tryd.underlying25 info_trace HTL.out) rfl ⟨by rw [HT.out, HC.out, if_neg HZ2.out]; rfl, by rw [HW3.out]; exact setRow_below HBW2.out (Nat.le_refl _) _⟩

    by_cases h16 : s.length = 16
    · clear h1
      have h1 := h16
      clear h16
      have hbl : b.length = 8 := by omega
      have HO := hid (show hexOut s = .tuple #[Sv b, .int .i64 0] by unfold hexOut; rw [hd]; rfl)
      obtain ⟨T, hT⟩ : ∃ T, zb 8 ++ b = T := ⟨_, rfl⟩
      have HT := hid (show traceT s = T by unfold traceT; rw [hd]; simp only []; rw [if_pos (.inr h1), hbl, ← hT])
      have HC := hid (show traceC s = if T = zb 16 then 10 else 0 by unfold traceC; rw [hd]; simp only []; rw [if_pos (.inr h1), hbl, ← hT])
      have hTl : T.length = 16 := by rw [← hT]; simp [hbl]
      have HTE := hid hT
      have HTL := hid hTl
      have hsl := fun W => run_slice_from_arr (t := 25) (n := 16) Tryd.underlying25 (w.heap.size + 1) 8 .i64 W (by omega)
      rw [if_neg (by omega)] at hsl
      have heq := fun W => run_eq_z16 W T hTl
      have HZ := hid hz
      have HBL := hid hbl
      have k1 : IntKind.i64.wrap (16 - (b.length : Int)) = 8 := by rw [hbl]; rfl
      have l1 : ((s.length : Int) != 32) = true := by rw [h1]; rfl
      have l2 : ((s.length : Int) != 16) = false := by rw [h1]; rfl
      have HH := hid h1
      clear hd hz hbl hT hTl h1 hbl0
      by_cases hz : T = zb 16
      · have he : (T == zb 16) = true := by simpa using hz
        have HZ2 := hid hz
        clear hz
        go_enter Tryd.func72, Tryd.ntmps72
        go_wp2_with fail
        refine (hread_any s _ hs).mono ?_; rintro e w1 ⟨rfl, hb1⟩
        rw [HO.out]
        obtain ⟨hA, hB, z0, z1, hbw⟩ := box2 hb1
        have HA : Hid (Blk w1 w.heap.size 25 (b8s (zb 16)).toArray) := hA
        have HB : Hid (Blk w1 (w.heap.size + 1) 25 (b8s (zb 16)).toArray) := hB
        have HBW := hid hbw
        clear hA hB hbw hb1
        go_wp2_with (first
          | (refine wpList_load_av rfl 25 (.tmp 4) rfl (w.heap.size + 1) 16 T _ rfl HB2.out Tryd.underlying25 info_trace HTL.out ?_)
          | (refine wpList_copy_str rfl (.tmp 27) (.tmp 28) rfl (w.heap.size + 1) 8 8 8 _ (zb 16) b rfl rfl HB.out (by rw [HBL.out]; omega) (by rw [HBL.out, HZ.out]; omega) ?_; intro w2 cs2 hw2 hB2; have HB2 : Hid (Blk w2 (w.heap.size + 1) 25 (b8s T).toArray) := (by rw [copied8 b T HTE.out HBL.out] at hB2; exact hB2); have HA2 : Hid (Blk w2 w.heap.size 25 (b8s (zb 16)).toArray) := (by rw [hw2]; exact setRow_far HA.out (by omega)); have HBW2 : Hid (Below w.heap.size w w2) := (by rw [hw2]; exact setRow_below HBW.out (by omega) _); clear hw2 hB2)
          | (refine wpList_store_av rfl 25 (.tmp 2) (.tmp 33) rfl w.heap.size 16 T (zb 16) _ rfl rfl HA2.out info_trace HTL.out HZ.out ?_; intro w3 hw3 hA3; have HA3 := hid hA3; have HW3 := hid hw3; clear hw3 hA3))
        exact bodyPost_ret (results_av2 rfl _ _ _ _ T rfl HA3.out Tryd.underlying25 info_trace HTL.out) rfl ⟨by rw [HT.out, HC.out, if_pos HZ2.out]; rfl, by rw [HW3.out]; exact setRow_below HBW2.out (Nat.le_refl _) _⟩
      · have he : (T == zb 16) = false := by simpa using hz
        have HZ2 := hid hz
        clear hz
        go_enter Tryd.func72, Tryd.ntmps72
        go_wp2_with fail
        refine (hread_any s _ hs).mono ?_; rintro e w1 ⟨rfl, hb1⟩
        rw [HO.out]
        obtain ⟨hA, hB, z0, z1, hbw⟩ := box2 hb1
        have HA : Hid (Blk w1 w.heap.size 25 (b8s (zb 16)).toArray) := hA
        have HB : Hid (Blk w1 (w.heap.size + 1) 25 (b8s (zb 16)).toArray) := hB
        have HBW := hid hbw
        clear hA hB hbw hb1
        go_wp2_with (first
          | (refine wpList_load_av rfl 25 (.tmp 4) rfl (w.heap.size + 1) 16 T _ rfl HB2.out Tryd.underlying25 info_trace HTL.out ?_)
          | (refine wpList_copy_str rfl (.tmp 27) (.tmp 28) rfl (w.heap.size + 1) 8 8 8 _ (zb 16) b rfl rfl HB.out (by rw [HBL.out]; omega) (by rw [HBL.out, HZ.out]; omega) ?_; intro w2 cs2 hw2 hB2; have HB2 : Hid (Blk w2 (w.heap.size + 1) 25 (b8s T).toArray) := (by rw [copied8 b T HTE.out HBL.out] at hB2; exact hB2); have HA2 : Hid (Blk w2 w.heap.size 25 (b8s (zb 16)).toArray) := (by rw [hw2]; exact setRow_far HA.out (by omega)); have HBW2 : Hid (Below w.heap.size w w2) := (by rw [hw2]; exact setRow_below HBW.out (by omega) _); clear hw2 hB2)
          | (refine wpList_store_av rfl 25 (.tmp 2) (.tmp 34) rfl w.heap.size 16 T (zb 16) _ rfl rfl HA2.out info_trace HTL.out HZ.out ?_; intro w3 hw3 hA3; have HA3 := hid hA3; have HW3 := hid hw3; clear hw3 hA3))
        exact bodyPost_ret (results_av2 rfl _ _ _ _ T rfl HA3.out Tryd.underlying25 info_trace HTL.out) rfl ⟨by rw [HT.out, HC.out, if_neg HZ2.out]; rfl, by rw [HW3.out]; exact setRow_below HBW2.out (Nat.le_refl _) _⟩

    have HO := hid (show hexOut s = .tuple #[Sv b, .int .i64 0] by unfold hexOut; rw [hd]; rfl)
    have HT := hid (show traceT s = zb 16 by unfold traceT; rw [hd]; simp only []; rw [if_neg (by omega)])
    have HC := hid (show traceC s = 3 by unfold traceC; rw [hd]; simp only []; rw [if_neg (by omega)])
    have HZ := hid hz
    have l1 : ((s.length : Int) != 32) = true := by rw [bne_iff_ne]; omega
    have l2 : ((s.length : Int) != 16) = true := by rw [bne_iff_ne]; omega
    clear hd hz hbl0
    go_enter Tryd.func72, Tryd.ntmps72
    go_wp2_with fail
    refine (hread_any s _ hs).mono ?_; rintro e w1 ⟨rfl, hb1⟩
    rw [HO.out]
    obtain ⟨hA, hB, z0, z1, hbw⟩ := box2 hb1
    have HA : Hid (Blk w1 w.heap.size 25 (b8s (zb 16)).toArray) := hA
    have HB : Hid (Blk w1 (w.heap.size + 1) 25 (b8s (zb 16)).toArray) := hB
    have HBW := hid hbw
    clear hA hB hbw hb1
    go_wp2_with (first
      | (refine wpList_load_av rfl 25 (.tmp 4) rfl (w.heap.size + 1) 16 (zb 16) _ rfl HB.out Tryd.underlying25 info_trace HZ.out ?_)
      | (refine wpList_store_av rfl 25 (.tmp 2) (.tmp 23) rfl w.heap.size 16 (zb 16) (zb 16) _ rfl rfl HA.out info_trace HZ.out HZ.out ?_; intro w2 hw2 hA2; have HA2 := hid hA2; have HW2 := hid hw2; clear hw2 hA2))
    exact bodyPost_ret (results_av2 rfl _ _ _ _ (zb 16) rfl HA2.out Tryd.underlying25 info_trace HZ.out) rfl ⟨by rw [HT.out, HC.out]; rfl, by rw [HW2.out]; exact setRow_below HBW.out (Nat.le_refl _) _⟩
/-- A span's name of digits: its bytes, and the code. -/
def spanT (s : List UInt8) : List UInt8 := match hexDec s with
  | some b => if s.length = 16 then b else zb 8
  | none => zb 8
def spanC (s : List UInt8) : Int := match hexDec s with
  | some b => if s.length = 16 then (if b = zb 8 then 10 else 0) else 3
  | none => 3
theorem spanT_length (s : List UInt8) : (spanT s).length = 8 := by
  unfold spanT
  split
  · rename_i b h
    have := hexDec_length s b h
    split
    · omega
    · simp
  · simp
theorem copied_all (b : List UInt8) (hb : b.length = 8) : List.take 0 (zb 8) ++ b ++ List.drop (0 + b.length) (zb 8) = b := by
  rw [hb]; simp [zb]
set_option maxRecDepth 100000 in
set_option maxHeartbeats 1000000 in
theorem readspan_any (s : List UInt8) (w : World) (hs : s.length ≤ 140737488355328) :
    Calls Tryd.prog 43 #[Sv s] w fun e w' => e = .returned (.tuple #[Av (spanT s), .int .i64 (spanC s)]) ∧ Below w.heap.size w w' := by
  have hz := zb_length 8
  cases hd : hexDec s with
  | none =>
    have HO := hid (show hexOut s = .tuple #[Sv [], .int .i64 3] by unfold hexOut; rw [hd]; rfl)
    have HT := hid (show spanT s = zb 8 by unfold spanT; rw [hd])
    have HC := hid (show spanC s = 3 by unfold spanC; rw [hd])
    have HZ := hid hz
    clear hd hz
    go_enter Tryd.func43, Tryd.ntmps43
    go_wp2_with fail
    refine (hread_any s _ hs).mono ?_; rintro e w1 ⟨rfl, hb1⟩
    rw [HO.out]
    obtain ⟨hA, hB, z0, z1, hbw⟩ := box2 hb1
    have HA : Hid (Blk w1 w.heap.size 27 (b8s (zb 8)).toArray) := hA
    have HB : Hid (Blk w1 (w.heap.size + 1) 27 (b8s (zb 8)).toArray) := hB
    have HBW := hid hbw
    clear hA hB hbw hb1
    go_wp2_with (first
      | (refine wpList_load_av rfl 27 (.tmp 4) rfl (w.heap.size + 1) 8 (zb 8) _ rfl HB.out Tryd.underlying27 info_span HZ.out ?_)
      | (refine wpList_store_av rfl 27 (.tmp 2) (.tmp 19) rfl w.heap.size 8 (zb 8) (zb 8) _ rfl rfl HA.out info_span HZ.out HZ.out ?_; intro w2 hw2 hA2; have HA2 := hid hA2; have HW2 := hid hw2; clear hw2 hA2))
    exact bodyPost_ret (results_av2 rfl _ _ _ _ (zb 8) rfl HA2.out Tryd.underlying27 info_span HZ.out) rfl ⟨by rw [HT.out, HC.out]; rfl, by rw [HW2.out]; exact setRow_below HBW.out (Nat.le_refl _) _⟩
  | some b =>
    have hbl0 := hexDec_length s b hd
    have HO := hid (show hexOut s = .tuple #[Sv b, .int .i64 0] by unfold hexOut; rw [hd]; rfl)
    have HZ := hid hz
    by_cases h16 : s.length = 16
    · have hbl : b.length = 8 := by omega
      have HT := hid (show spanT s = b by unfold spanT; rw [hd]; simp only []; rw [if_pos h16])
      have HC := hid (show spanC s = if b = zb 8 then 10 else 0 by unfold spanC; rw [hd]; simp only []; rw [if_pos h16])
      have hsl := fun W => run_slice_all_arr (t := 27) (n := 8) Tryd.underlying27 (w.heap.size + 1) W
      have heq := fun W => run_eq_z8 W b hbl
      have HBL := hid hbl
      have l2 : ((s.length : Int) != 16) = false := by rw [h16]; rfl
      clear hd hz hbl hbl0 h16
      by_cases hz : b = zb 8
      · have he : (b == zb 8) = true := by simpa using hz
        have HZ2 := hid hz
        clear hz
        go_enter Tryd.func43, Tryd.ntmps43
        go_wp2_with fail
        refine (hread_any s _ hs).mono ?_; rintro e w1 ⟨rfl, hb1⟩
        rw [HO.out]
        obtain ⟨hA, hB, z0, z1, hbw⟩ := box2 hb1
        have HA : Hid (Blk w1 w.heap.size 27 (b8s (zb 8)).toArray) := hA
        have HB : Hid (Blk w1 (w.heap.size + 1) 27 (b8s (zb 8)).toArray) := hB
        have HBW := hid hbw
        clear hA hB hbw hb1
        go_wp2_with (first
          | (refine wpList_load_av rfl 27 (.tmp 4) rfl (w.heap.size + 1) 8 b _ rfl HB2.out Tryd.underlying27 info_span HBL.out ?_)
          | (refine wpList_copy_str rfl (.tmp 20) (.tmp 21) rfl (w.heap.size + 1) 0 8 8 _ (zb 8) b rfl rfl HB.out (by rw [HBL.out]; omega) (by rw [HBL.out, HZ.out]; omega) ?_; intro w2 cs2 hw2 hB2; have HB2 : Hid (Blk w2 (w.heap.size + 1) 27 (b8s b).toArray) := (by rw [copied_all b HBL.out] at hB2; exact hB2); have HA2 : Hid (Blk w2 w.heap.size 27 (b8s (zb 8)).toArray) := (by rw [hw2]; exact setRow_far HA.out (by omega)); have HBW2 : Hid (Below w.heap.size w w2) := (by rw [hw2]; exact setRow_below HBW.out (by omega) _); clear hw2 hB2)
          | (refine wpList_store_av rfl 27 (.tmp 2) (.tmp 26) rfl w.heap.size 8 b (zb 8) _ rfl rfl HA2.out info_span HBL.out HZ.out ?_; intro w3 hw3 hA3; have HA3 := hid hA3; have HW3 := hid hw3; clear hw3 hA3))
        exact bodyPost_ret (results_av2 rfl _ _ _ _ b rfl HA3.out Tryd.underlying27 info_span HBL.out) rfl ⟨by rw [HT.out, HC.out, if_pos HZ2.out]; rfl, by rw [HW3.out]; exact setRow_below HBW2.out (Nat.le_refl _) _⟩
      · have he : (b == zb 8) = false := by simpa using hz
        have HZ2 := hid hz
        clear hz
        go_enter Tryd.func43, Tryd.ntmps43
        go_wp2_with fail
        refine (hread_any s _ hs).mono ?_; rintro e w1 ⟨rfl, hb1⟩
        rw [HO.out]
        obtain ⟨hA, hB, z0, z1, hbw⟩ := box2 hb1
        have HA : Hid (Blk w1 w.heap.size 27 (b8s (zb 8)).toArray) := hA
        have HB : Hid (Blk w1 (w.heap.size + 1) 27 (b8s (zb 8)).toArray) := hB
        have HBW := hid hbw
        clear hA hB hbw hb1
        go_wp2_with (first
          | (refine wpList_load_av rfl 27 (.tmp 4) rfl (w.heap.size + 1) 8 b _ rfl HB2.out Tryd.underlying27 info_span HBL.out ?_)
          | (refine wpList_copy_str rfl (.tmp 20) (.tmp 21) rfl (w.heap.size + 1) 0 8 8 _ (zb 8) b rfl rfl HB.out (by rw [HBL.out]; omega) (by rw [HBL.out, HZ.out]; omega) ?_; intro w2 cs2 hw2 hB2; have HB2 : Hid (Blk w2 (w.heap.size + 1) 27 (b8s b).toArray) := (by rw [copied_all b HBL.out] at hB2; exact hB2); have HA2 : Hid (Blk w2 w.heap.size 27 (b8s (zb 8)).toArray) := (by rw [hw2]; exact setRow_far HA.out (by omega)); have HBW2 : Hid (Below w.heap.size w w2) := (by rw [hw2]; exact setRow_below HBW.out (by omega) _); clear hw2 hB2)
          | (refine wpList_store_av rfl 27 (.tmp 2) (.tmp 27) rfl w.heap.size 8 b (zb 8) _ rfl rfl HA2.out info_span HBL.out HZ.out ?_; intro w3 hw3 hA3; have HA3 := hid hA3; have HW3 := hid hw3; clear hw3 hA3))
        exact bodyPost_ret (results_av2 rfl _ _ _ _ b rfl HA3.out Tryd.underlying27 info_span HBL.out) rfl ⟨by rw [HT.out, HC.out, if_neg HZ2.out]; rfl, by rw [HW3.out]; exact setRow_below HBW2.out (Nat.le_refl _) _⟩
    have HT := hid (show spanT s = zb 8 by unfold spanT; rw [hd]; simp only []; rw [if_neg h16])
    have HC := hid (show spanC s = 3 by unfold spanC; rw [hd]; simp only []; rw [if_neg h16])
    have l2 : ((s.length : Int) != 16) = true := by rw [bne_iff_ne]; omega
    clear hd hz hbl0 h16
    go_enter Tryd.func43, Tryd.ntmps43
    go_wp2_with fail
    refine (hread_any s _ hs).mono ?_; rintro e w1 ⟨rfl, hb1⟩
    rw [HO.out]
    obtain ⟨hA, hB, z0, z1, hbw⟩ := box2 hb1
    have HA : Hid (Blk w1 w.heap.size 27 (b8s (zb 8)).toArray) := hA
    have HB : Hid (Blk w1 (w.heap.size + 1) 27 (b8s (zb 8)).toArray) := hB
    have HBW := hid hbw
    clear hA hB hbw hb1
    go_wp2_with (first
      | (refine wpList_load_av rfl 27 (.tmp 4) rfl (w.heap.size + 1) 8 (zb 8) _ rfl HB.out Tryd.underlying27 info_span HZ.out ?_)
      | (refine wpList_store_av rfl 27 (.tmp 2) (.tmp 19) rfl w.heap.size 8 (zb 8) (zb 8) _ rfl rfl HA.out info_span HZ.out HZ.out ?_; intro w2 hw2 hA2; have HA2 := hid hA2; have HW2 := hid hw2; clear hw2 hA2))
    exact bodyPost_ret (results_av2 rfl _ _ _ _ (zb 8) rfl HA2.out Tryd.underlying27 info_span HZ.out) rfl ⟨by rw [HT.out, HC.out]; rfl, by rw [HW2.out]; exact setRow_below HBW.out (Nat.le_refl _) _⟩
end Go.Proofs.YtgfdmdikiickpaaDoor
