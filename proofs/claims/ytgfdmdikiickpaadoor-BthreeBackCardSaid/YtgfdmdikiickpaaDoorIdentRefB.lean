/-
  Walks of the reference of package ident: bytes and numbers of names.
-/
import Derived.Test.YtgfdmdikiickpaaDoorIdentRef
namespace Go.Proofs.YtgfdmdikiickpaaDoor
open Go.RowKit

set_option maxRecDepth 100000 in
set_option maxHeartbeats 1000000 in
theorem rtracebytes_any (l : List UInt8) (w : World) (hl : l.length = 16) :
    Calls Tryd.prog 76 #[Av l] w fun e w' => e = .returned (Sv l) ∧ Below w.heap.size w w' := by
  obtain ⟨w0, hw0⟩ : ∃ w0, w0 = w.alloc (.cells (b8s l).toArray 25) := ⟨_, rfl⟩
  have HW0 := hid hw0
  have hB : Blk w0 w.heap.size 25 (b8s l).toArray := by rw [hw0]; exact Blk.new w _ _
  have hbw : Below w.heap.size w w0 := by rw [hw0]; exact ext_alloc w _
  have hrel0 : ∃ k : Nat, k ≤ 16 ∧ Value.int .i64 0 = .int .i64 (k : Int) ∧ Hid (Own w0 w0.heap.size (.slice none 0 0) (l.take k) ∧ Below w0.heap.size w0 w0) := ⟨0, by omega, rfl, Own.nil _ _, Below.refl _ _⟩
  have HB := hid hB
  have HBW := hid hbw
  have HL := hid hl
  clear hw0 hB hbw hl
  go_enter Tryd.func76, Tryd.ntmps76
  go_wp2_with fail
  rw [← HW0.out]
  try simp only [string_Sv]
  go_loopw [3, 4] (fun v i wr => ∃ k : Nat, k ≤ 16 ∧ i = .int .i64 (k : Int) ∧ Hid (Own wr w0.heap.size v (l.take k) ∧ Below w0.heap.size w0 wr)) (fun _ i _ => 16 - (intOf i).toNat)
  case atStart => exact hrel0
  case round =>
    clear hrel0 HW0
    obtain ⟨k, hk, rfl, HR⟩ := hrel
    by_cases hlt : k < 16
    · have n1 := byteAt_lo l k
      have n2 := byteAt_hi l k
      have hkl : k < l.length := by rw [HL.out]; exact hlt
      have hcell := blk_byte (HB.out.below HR.out.2 HB.out.lt) (j := k) hkl
      have hts := hid (show l.take (k + 1) = l.take k ++ [bt (byteAt l k)] by rw [List.take_succ_eq_append_getElem hkl, byteAt_getElem l k hkl, bt_bi])
      have hlen : (l.take k).length ≤ 100 := by rw [List.length_take]; omega
      clear hkl
      go_wp2_with (at_builtin; refine wpList_app1 rfl (.tmp 9) (.tmp 13) rfl w0 _ (l.take k) rfl (byteAt l k) HR.out.1 HR.out.2 rfl n1 n2 (by omega) ?_; intro v1 w1 hown1 hbw1; have HN : Hid (Own w1 w0.heap.size v1 (l.take (k + 1)) ∧ Below w0.heap.size w0 w1) := ⟨by rw [hts.out]; exact hown1, hbw1⟩; clear hown1 hbw1)
      go_roundw
      case rel => exact ⟨k + 1, by omega, by go_num, HN⟩
      case measure => simp [intOf] <;> omega
    · have hkl : k = 16 := by omega
      subst hkl
      have hts := run_to_string (HR.out.1).bs
      rw [List.take_of_length_le (by rw [HL.out]; omega)] at hts
      have HBE := hid (HBW.out.trans (HR.out.2.mono HBW.out.size))
      clear HR
      go_wp2
      go_ret
      exact ⟨rfl, HBE.out⟩
set_option maxRecDepth 100000 in
set_option maxHeartbeats 1000000 in
theorem rspanbytes_any (l : List UInt8) (w : World) (hl : l.length = 8) :
    Calls Tryd.prog 77 #[Av l] w fun e w' => e = .returned (Sv l) ∧ Below w.heap.size w w' := by
  obtain ⟨w0, hw0⟩ : ∃ w0, w0 = w.alloc (.cells (b8s l).toArray 27) := ⟨_, rfl⟩
  have HW0 := hid hw0
  have hB : Blk w0 w.heap.size 27 (b8s l).toArray := by rw [hw0]; exact Blk.new w _ _
  have hbw : Below w.heap.size w w0 := by rw [hw0]; exact ext_alloc w _
  have hrel0 : ∃ k : Nat, k ≤ 8 ∧ Value.int .i64 0 = .int .i64 (k : Int) ∧ Hid (Own w0 w0.heap.size (.slice none 0 0) (l.take k) ∧ Below w0.heap.size w0 w0) := ⟨0, by omega, rfl, Own.nil _ _, Below.refl _ _⟩
  have HB := hid hB
  have HBW := hid hbw
  have HL := hid hl
  clear hw0 hB hbw hl
  go_enter Tryd.func77, Tryd.ntmps77
  go_wp2_with fail
  rw [← HW0.out]
  try simp only [string_Sv]
  go_loopw [3, 4] (fun v i wr => ∃ k : Nat, k ≤ 8 ∧ i = .int .i64 (k : Int) ∧ Hid (Own wr w0.heap.size v (l.take k) ∧ Below w0.heap.size w0 wr)) (fun _ i _ => 8 - (intOf i).toNat)
  case atStart => exact hrel0
  case round =>
    clear hrel0 HW0
    obtain ⟨k, hk, rfl, HR⟩ := hrel
    by_cases hlt : k < 8
    · have n1 := byteAt_lo l k
      have n2 := byteAt_hi l k
      have hkl : k < l.length := by rw [HL.out]; exact hlt
      have hcell := blk_byte (HB.out.below HR.out.2 HB.out.lt) (j := k) hkl
      have hts := hid (show l.take (k + 1) = l.take k ++ [bt (byteAt l k)] by rw [List.take_succ_eq_append_getElem hkl, byteAt_getElem l k hkl, bt_bi])
      have hlen : (l.take k).length ≤ 100 := by rw [List.length_take]; omega
      clear hkl
      go_wp2_with (at_builtin; refine wpList_app1 rfl (.tmp 9) (.tmp 13) rfl w0 _ (l.take k) rfl (byteAt l k) HR.out.1 HR.out.2 rfl n1 n2 (by omega) ?_; intro v1 w1 hown1 hbw1; have HN : Hid (Own w1 w0.heap.size v1 (l.take (k + 1)) ∧ Below w0.heap.size w0 w1) := ⟨by rw [hts.out]; exact hown1, hbw1⟩; clear hown1 hbw1)
      go_roundw
      case rel => exact ⟨k + 1, by omega, by go_num, HN⟩
      case measure => simp [intOf] <;> omega
    · have hkl : k = 8 := by omega
      subst hkl
      have hts := run_to_string (HR.out.1).bs
      rw [List.take_of_length_le (by rw [HL.out]; omega)] at hts
      have HBE := hid (HBW.out.trans (HR.out.2.mono HBW.out.size))
      clear HR
      go_wp2
      go_ret
      exact ⟨rfl, HBE.out⟩
set_option maxRecDepth 100000 in
set_option maxHeartbeats 400000 in
theorem rnumber_any (s : List UInt8) (w : World) (hs : s.length ≤ 8) :
    Calls Tryd.prog 79 #[Sv s] w fun e w' => e = .returned (.int .u64 (valH s)) ∧ w = w' := by
  go_enter Tryd.func79, Tryd.ntmps79
  go_wp2
  go_loop [3, 4] (fun u i => ∃ k : Nat, k ≤ s.length ∧ i = .int .i64 (k : Int) ∧ u = .int .u64 (valH (s.take k))) (fun _ i => s.length - (intOf i).toNat)
  case atStart => exact ⟨0, by omega, rfl, by simp [valH, valL]⟩
  case round =>
    obtain ⟨k, hk, rfl, rfl⟩ := hrel
    by_cases hlt : k < s.length
    · have hv := hid (valH_take s k hlt)
      have v0 : 0 ≤ valH (s.take k) := valL_nonneg _
      have v1 : valH (s.take k) ≤ 72057594037927935 := by have := valL_lt_le (s.take k).reverse 7 (by simp; omega); unfold valH; omega
      generalize valH (s.take k) = V at hv v0 v1 ⊢
      have n1 := byteAt_lo s k
      have n2 := byteAt_hi s k
      go_wp2
      go_round
      case rel => exact ⟨k + 1, by omega, by go_num, by rw [hv.out]⟩
      case measure => simp [intOf] <;> omega
    · have hk0 : k = s.length := by omega
      subst hk0
      rw [List.take_length]
      go_wp2
      go_ret
      exact ⟨rfl, rfl⟩
theorem rnumber_quiet (s : List UInt8) (w : World) (n : Nat) (hs : s.length ≤ 8) :
    Calls Tryd.prog 79 #[Sv s] (w.drewN n) fun e w' => e = .returned (.int .u64 (valH s)) ∧ ∃ m, w' = w.drewN m :=
  Calls.quiet_of_same ((rnumber_any s _ hs).mono fun _ _ ⟨he, hm⟩ => ⟨he, hm.symm⟩)
set_option maxRecDepth 100000 in
set_option maxHeartbeats 1000000 in
theorem rhalves_any (l : List UInt8) (w : World) (hl : l.length = 16) :
    Calls Tryd.prog 78 #[Av l] w fun e w' => e = .returned (.tuple #[.int .u64 (valH (l.take 8)), .int .u64 (valH (l.drop 8))]) ∧ Below w.heap.size w w' := by
  have HB := hid (Blk.new w 25 (b8s l).toArray)
  have HBW := hid (ext_alloc w (.cells (b8s l).toArray 25))
  have HL := hid hl
  have q1 : 8 ≤ l.length := by omega
  have q2 : (8 : Int) ≤ (l.length : Int) := by omega
  have t1 : (l.take 8).length ≤ 8 := by rw [List.length_take]; omega
  have t2 : (l.drop 8).length ≤ 8 := by rw [List.length_drop]; omega
  clear hl
  go_enter Tryd.func78, Tryd.ntmps78
  go_wp2_with (refine wpList_load_av rfl 25 (.tmp 1) rfl w.heap.size 16 l _ rfl HB.out Tryd.underlying25 info_trace HL.out ?_)
  refine (rtracebytes_any l _ HL.out).mono ?_; rintro e w1 ⟨rfl, hb1⟩
  go_wp2_with fail
  go_quiet ((go_at_call 79; exact rnumber_quiet _ _ _ (by assumption)))
  go_wp2
  go_ret2
  exact ⟨rfl, below_drewN (HBW.out.trans (hb1.mono HBW.out.size)) _⟩
set_option maxRecDepth 100000 in
theorem rnum_any (l : List UInt8) (w : World) (hl : l.length = 8) :
    Calls Tryd.prog 54 #[Av l] w fun e w' => e = .returned (.int .u64 (valH l)) ∧ Below w.heap.size w w' := by
  have HB := hid (Blk.new w 27 (b8s l).toArray)
  have HBW := hid (ext_alloc w (.cells (b8s l).toArray 27))
  have HL := hid hl
  have t1 : l.length ≤ 8 := by omega
  clear hl
  go_enter Tryd.func54, Tryd.ntmps54
  go_wp2_with (refine wpList_load_av rfl 27 (.tmp 1) rfl w.heap.size 8 l _ rfl HB.out Tryd.underlying27 info_span HL.out ?_)
  refine (rspanbytes_any l _ HL.out).mono ?_; rintro e w1 ⟨rfl, hb1⟩
  go_wp2_with fail
  refine (rnumber_any l _ t1).mono ?_; rintro e w2 ⟨rfl, rfl⟩
  go_wp2
  go_ret
  exact ⟨rfl, HBW.out.trans (hb1.mono HBW.out.size)⟩
end Go.Proofs.YtgfdmdikiickpaaDoor
