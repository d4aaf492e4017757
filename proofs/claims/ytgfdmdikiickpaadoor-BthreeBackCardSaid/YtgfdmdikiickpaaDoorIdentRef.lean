/-
  Walks of the reference of package ident: names of digits, and of bytes.
-/
import Derived.Test.YtgfdmdikiickpaaDoorIdent
import Derived.Test.YtgfdmdikiickpaaDoorPLay
namespace Go.Proofs.YtgfdmdikiickpaaDoor
open Go.RowKit

theorem zero_all {b : List UInt8} {n : Nat} (hl : b.length = n) (h : ∀ j, j < n → byteAt b j = 0) : b = zb n := by
  apply List.ext_getElem
  · rw [hl, zb_length]
  · intro j h1 h2
    have := h j (by omega)
    rw [byteAt_getElem b j h1] at this
    have e : b[j] = 0 := by rw [← bt_bi b[j], this]; rfl
    rw [e]; simp [zb]
theorem zero_not {b : List UInt8} {n k : Nat} (hk : k < n) (h : byteAt b k ≠ 0) : b ≠ zb n := by
  intro e; subst e
  apply h
  rw [byteAt_getElem _ k (by simpa using hk)]
  simp [zb, bi]
def bytesB (s : List UInt8) (n : Nat) : List UInt8 := match hexDec s with
  | some b => if b.length = n ∧ b ≠ zb n then b else []
  | none => []
def bytesC (s : List UInt8) (n : Nat) : Int := match hexDec s with
  | some b => if b.length = n then (if b = zb n then 10 else 0) else 3
  | none => 3
set_option maxRecDepth 100000 in
set_option maxHeartbeats 1000000 in
theorem rbytes_any (s : List UInt8) (n : Nat) (w : World) (hs : s.length ≤ 140737488355328) (hn : n ≤ 100) :
    Calls Tryd.prog 69 #[Sv s, .int .i64 (n : Int)] w fun e w' => e = .returned (.tuple #[Sv (bytesB s n), .int .i64 (bytesC s n)]) ∧ Below w.heap.size w w' := by
  cases hd : hexDec s with
  | none =>
    have HO := hid (show hexOut s = .tuple #[Sv [], .int .i64 3] by unfold hexOut; rw [hd]; rfl)
    have HB := hid (show bytesB s n = [] by unfold bytesB; rw [hd])
    have HC := hid (show bytesC s n = 3 by unfold bytesC; rw [hd])
    clear hd
    go_enter Tryd.func69, Tryd.ntmps69
    go_wp2_with fail
    refine (rread_any s _ hs).mono ?_; rintro e w1 ⟨rfl, hb1⟩
    rw [HO.out]
    go_wp2_with fail
    go_ret2
    exact ⟨by rw [HB.out, HC.out]; rfl, hb1⟩
  | some b =>
    have HO := hid (show hexOut s = .tuple #[Sv b, .int .i64 0] by unfold hexOut; rw [hd]; rfl)
    have hl2 := hexDec_length s b hd
    have hbl : b.length ≤ 140737488355328 := by omega
    by_cases hl : b.length = n
    case neg =>
      have HB := hid (show bytesB s n = [] by unfold bytesB; rw [hd]; simp only []; rw [if_neg (fun h => hl h.1)])
      have HC := hid (show bytesC s n = 3 by unfold bytesC; rw [hd]; simp only []; rw [if_neg hl])
      have h1 : ((b.length : Int) != (n : Int)) = true := by rw [bne_iff_ne]; omega
      clear hd hl hl2
      go_enter Tryd.func69, Tryd.ntmps69
      go_wp2_with fail
      refine (rread_any s _ hs).mono ?_; rintro e w1 ⟨rfl, hb1⟩
      rw [HO.out]
      go_wp2_with fail
      go_ret2
      exact ⟨by rw [HB.out, HC.out]; rfl, hb1⟩
    case pos =>
      have h1 : ((b.length : Int) != (n : Int)) = false := by rw [bne_eq_false_iff_eq]; omega
      have HL := hid hl
      have HD := hid hd
      clear hd hl hl2
      go_enter Tryd.func69, Tryd.ntmps69
      go_wp2_with fail
      refine (rread_any s _ hs).mono ?_; rintro e w1 ⟨rfl, hb1⟩
      rw [HO.out]
      go_wp2_with fail
      go_loop [8] (fun i => ∃ k : Nat, k ≤ n ∧ i = .int .i64 (k : Int) ∧ Hid (∀ j, j < k → byteAt b j = 0)) (fun i => n - (intOf i).toNat)
      case atStart => exact ⟨0, by omega, rfl, fun j hj => by omega⟩
      case round =>
        obtain ⟨k, hk, rfl, HR⟩ := hrel
        by_cases hlt : k < n
        · have hkl : k < b.length := by rw [HL.out]; exact hlt
          have n1 := byteAt_lo b k
          have n2 := byteAt_hi b k
          by_cases hz : byteAt b k = 0
          · have hz1 : (byteAt b k != 0) = false := by rw [bne_eq_false_iff_eq]; exact hz
            have HZ := hid hz
            clear hz
            go_wp2
            go_round
            case rel =>
              refine ⟨k + 1, by omega, by go_num, fun j hj => ?_⟩
              by_cases e : j = k
              · subst e; exact HZ.out
              · exact HR.out j (by omega)
            case measure => simp [intOf] <;> omega
          · have hz1 : (byteAt b k != 0) = true := by rw [bne_iff_ne]; exact hz
            have hne := zero_not hlt hz
            have HB := hid (show bytesB s n = b by unfold bytesB; rw [HD.out]; simp only []; rw [if_pos ⟨HL.out, hne⟩])
            have HC := hid (show bytesC s n = 0 by unfold bytesC; rw [HD.out]; simp only []; rw [if_pos HL.out, if_neg hne])
            clear hz hne
            go_wp2
            go_ret2
            exact ⟨by rw [HB.out, HC.out]; rfl, hb1⟩
        · have hz := zero_all HL.out (fun j hj => HR.out j (by omega))
          have HB := hid (show bytesB s n = [] by unfold bytesB; rw [HD.out]; simp only []; rw [if_neg (fun h => h.2 hz)])
          have HC := hid (show bytesC s n = 10 by unfold bytesC; rw [HD.out]; simp only []; rw [if_pos HL.out, if_pos hz])
          clear hz
          go_wp2
          go_ret2
          exact ⟨by rw [HB.out, HC.out]; rfl, hb1⟩
theorem arr_step (b : List UInt8) (n k : Nat) (hk : k < b.length) (hn : b.length ≤ n) : (b.take k ++ zb (n - k)).set k (bt (byteAt b k)) = b.take (k + 1) ++ zb (n - (k + 1)) := by
  have e : b.take (k + 1) = b.take k ++ [bt (byteAt b k)] := by rw [List.take_succ_eq_append_getElem hk, byteAt_getElem b k hk, bt_bi]
  have z : zb (n - k) = 0 :: zb (n - (k + 1)) := by unfold zb; rw [show n - k = (n - (k + 1)) + 1 by omega]; rfl
  have hl : (b.take k).length = k := by simp; omega
  rw [e, z, List.set_append_right _ _ (by omega), hl, Nat.sub_self]
  simp
set_option maxRecDepth 100000 in
set_option maxHeartbeats 1000000 in
theorem rtrace_any (b : List UInt8) (w : World) (hb : b.length ≤ 16) :
    Calls Tryd.prog 70 #[Sv b] w fun e w' => e = .returned (Av (b ++ zb (16 - b.length))) ∧ Below w.heap.size w w' := by
  obtain ⟨w0, hw0⟩ : ∃ w0, w0 = (w.alloc (.cells #[.int .u8 0, .int .u8 0, .int .u8 0, .int .u8 0, .int .u8 0, .int .u8 0, .int .u8 0, .int .u8 0, .int .u8 0, .int .u8 0, .int .u8 0, .int .u8 0, .int .u8 0, .int .u8 0, .int .u8 0, .int .u8 0] 25)).alloc (.cells #[.int .u8 0, .int .u8 0, .int .u8 0, .int .u8 0, .int .u8 0, .int .u8 0, .int .u8 0, .int .u8 0, .int .u8 0, .int .u8 0, .int .u8 0, .int .u8 0, .int .u8 0, .int .u8 0, .int .u8 0, .int .u8 0] 25) := ⟨_, rfl⟩
  obtain ⟨hA, hB, z0, z1, hbw⟩ := box2 (w := w) (w1 := w0) (A := #[.int .u8 0, .int .u8 0, .int .u8 0, .int .u8 0, .int .u8 0, .int .u8 0, .int .u8 0, .int .u8 0, .int .u8 0, .int .u8 0, .int .u8 0, .int .u8 0, .int .u8 0, .int .u8 0, .int .u8 0, .int .u8 0]) (B := #[.int .u8 0, .int .u8 0, .int .u8 0, .int .u8 0, .int .u8 0, .int .u8 0, .int .u8 0, .int .u8 0, .int .u8 0, .int .u8 0, .int .u8 0, .int .u8 0, .int .u8 0, .int .u8 0, .int .u8 0, .int .u8 0]) (tA := 25) (tB := 25) (by rw [hw0]; exact Below.refl _ _)
  have HA : Hid (Blk w0 w.heap.size 25 (b8s (zb 16)).toArray) := hA
  have hrel0 : ∃ k : Nat, k ≤ b.length ∧ Value.int .i64 0 = .int .i64 (k : Int) ∧ Hid (Blk w0 w.heap.size 25 (b8s (zb 16)).toArray ∧ Blk w0 (w.heap.size + 1) 25 (b8s (b.take k ++ zb (16 - k))).toArray ∧ Below w.heap.size w w0) := ⟨0, by omega, rfl, hA, hB, hbw⟩
  have HW0 := hid hw0
  clear hA hB hbw hw0 HA z0 z1
  go_enter Tryd.func70, Tryd.ntmps70
  go_wp2_with fail
  rw [← HW0.out]
  go_loopw [4] (fun i wr => ∃ k : Nat, k ≤ b.length ∧ i = .int .i64 (k : Int) ∧ Hid (Blk wr w.heap.size 25 (b8s (zb 16)).toArray ∧ Blk wr (w.heap.size + 1) 25 (b8s (b.take k ++ zb (16 - k))).toArray ∧ Below w.heap.size w wr)) (fun i _ => b.length - (intOf i).toNat)
  case atStart => exact hrel0
  case round =>
    clear hrel0 HW0
    obtain ⟨k, hk, rfl, HR⟩ := hrel
    by_cases hlt : k < b.length
    · have n1 := byteAt_lo b k
      have n2 := byteAt_hi b k
      have hcell := blk_byte HR.out.2.1 (j := k) (by simp; omega)
      have hfr := HR.out.2.1.frozen k
      have HN : Hid (Blk (wr.setCell ⟨w.heap.size + 1, k, none⟩ (.int .u8 (byteAt b k))) w.heap.size 25 (b8s (zb 16)).toArray ∧ Blk (wr.setCell ⟨w.heap.size + 1, k, none⟩ (.int .u8 (byteAt b k))) (w.heap.size + 1) 25 (b8s (b.take (k + 1) ++ zb (16 - (k + 1)))).toArray ∧ Below w.heap.size w (wr.setCell ⟨w.heap.size + 1, k, none⟩ (.int .u8 (byteAt b k)))) :=
        ⟨Blk.far HR.out.1 (by simp) _, by rw [← arr_step b 16 k hlt hb, ← b8s_set _ _ _ n1 n2]; exact HR.out.2.1.set_ k _, by have h := HR.out.2.2; exact h.setCell (by simp) _⟩
      clear HR
      go_wp2
      go_roundw
      case rel => exact ⟨k + 1, by omega, by go_num, HN⟩
      case measure => simp [intOf] <;> omega
    · have hkl : k = b.length := by omega
      subst hkl
      have HR2 : Hid (Blk wr w.heap.size 25 (b8s (zb 16)).toArray ∧ Blk wr (w.heap.size + 1) 25 (b8s (b ++ zb (16 - b.length))).toArray ∧ Below w.heap.size w wr) := by have h := HR.out; rw [List.take_length] at h; exact h
      have HL := hid (show (b ++ zb (16 - b.length)).length = 16 by simp; omega)
      clear HR
      go_wp2_with (first
        | (refine wpList_load_av rfl 25 (.tmp 3) rfl (w.heap.size + 1) 16 (b ++ zb (16 - b.length)) _ rfl HR2.out.2.1 Tryd.underlying25 info_trace HL.out ?_)
        | (refine wpList_store_av rfl 25 (.tmp 2) (.tmp 20) rfl w.heap.size 16 (b ++ zb (16 - b.length)) (zb 16) _ rfl rfl HR2.out.1 info_trace HL.out (zb_length _) ?_; intro w3 hw3 hA3; have HA3 := hid hA3; have HW3 := hid hw3; clear hw3 hA3))
      exact bodyPost_ret (results_av1 rfl _ _ _ _ _ rfl HA3.out Tryd.underlying25 info_trace HL.out) rfl ⟨rfl, by rw [HW3.out]; exact setRow_below HR2.out.2.2 (Nat.le_refl _) _⟩
set_option maxRecDepth 100000 in
set_option maxHeartbeats 1000000 in
theorem rspan_any (b : List UInt8) (w : World) (hb : b.length ≤ 8) :
    Calls Tryd.prog 71 #[Sv b] w fun e w' => e = .returned (Av (b ++ zb (8 - b.length))) ∧ Below w.heap.size w w' := by
  obtain ⟨w0, hw0⟩ : ∃ w0, w0 = (w.alloc (.cells #[.int .u8 0, .int .u8 0, .int .u8 0, .int .u8 0, .int .u8 0, .int .u8 0, .int .u8 0, .int .u8 0] 27)).alloc (.cells #[.int .u8 0, .int .u8 0, .int .u8 0, .int .u8 0, .int .u8 0, .int .u8 0, .int .u8 0, .int .u8 0] 27) := ⟨_, rfl⟩
  obtain ⟨hA, hB, z0, z1, hbw⟩ := box2 (w := w) (w1 := w0) (A := #[.int .u8 0, .int .u8 0, .int .u8 0, .int .u8 0, .int .u8 0, .int .u8 0, .int .u8 0, .int .u8 0]) (B := #[.int .u8 0, .int .u8 0, .int .u8 0, .int .u8 0, .int .u8 0, .int .u8 0, .int .u8 0, .int .u8 0]) (tA := 27) (tB := 27) (by rw [hw0]; exact Below.refl _ _)
  have HA : Hid (Blk w0 w.heap.size 27 (b8s (zb 8)).toArray) := hA
  have hrel0 : ∃ k : Nat, k ≤ b.length ∧ Value.int .i64 0 = .int .i64 (k : Int) ∧ Hid (Blk w0 w.heap.size 27 (b8s (zb 8)).toArray ∧ Blk w0 (w.heap.size + 1) 27 (b8s (b.take k ++ zb (8 - k))).toArray ∧ Below w.heap.size w w0) := ⟨0, by omega, rfl, hA, hB, hbw⟩
  have HW0 := hid hw0
  clear hA hB hbw hw0 HA z0 z1
  go_enter Tryd.func71, Tryd.ntmps71
  go_wp2_with fail
  rw [← HW0.out]
  go_loopw [4] (fun i wr => ∃ k : Nat, k ≤ b.length ∧ i = .int .i64 (k : Int) ∧ Hid (Blk wr w.heap.size 27 (b8s (zb 8)).toArray ∧ Blk wr (w.heap.size + 1) 27 (b8s (b.take k ++ zb (8 - k))).toArray ∧ Below w.heap.size w wr)) (fun i _ => b.length - (intOf i).toNat)
  case atStart => exact hrel0
  case round =>
    clear hrel0 HW0
    obtain ⟨k, hk, rfl, HR⟩ := hrel
    by_cases hlt : k < b.length
    · have n1 := byteAt_lo b k
      have n2 := byteAt_hi b k
      have hcell := blk_byte HR.out.2.1 (j := k) (by simp; omega)
      have hfr := HR.out.2.1.frozen k
      have HN : Hid (Blk (wr.setCell ⟨w.heap.size + 1, k, none⟩ (.int .u8 (byteAt b k))) w.heap.size 27 (b8s (zb 8)).toArray ∧ Blk (wr.setCell ⟨w.heap.size + 1, k, none⟩ (.int .u8 (byteAt b k))) (w.heap.size + 1) 27 (b8s (b.take (k + 1) ++ zb (8 - (k + 1)))).toArray ∧ Below w.heap.size w (wr.setCell ⟨w.heap.size + 1, k, none⟩ (.int .u8 (byteAt b k)))) :=
        ⟨Blk.far HR.out.1 (by simp) _, by rw [← arr_step b 8 k hlt hb, ← b8s_set _ _ _ n1 n2]; exact HR.out.2.1.set_ k _, by have h := HR.out.2.2; exact h.setCell (by simp) _⟩
      clear HR
      go_wp2
      go_roundw
      case rel => exact ⟨k + 1, by omega, by go_num, HN⟩
      case measure => simp [intOf] <;> omega
    · have hkl : k = b.length := by omega
      subst hkl
      have HR2 : Hid (Blk wr w.heap.size 27 (b8s (zb 8)).toArray ∧ Blk wr (w.heap.size + 1) 27 (b8s (b ++ zb (8 - b.length))).toArray ∧ Below w.heap.size w wr) := by have h := HR.out; rw [List.take_length] at h; exact h
      have HL := hid (show (b ++ zb (8 - b.length)).length = 8 by simp; omega)
      clear HR
      go_wp2_with (first
        | (refine wpList_load_av rfl 27 (.tmp 3) rfl (w.heap.size + 1) 8 (b ++ zb (8 - b.length)) _ rfl HR2.out.2.1 Tryd.underlying27 info_span HL.out ?_)
        | (refine wpList_store_av rfl 27 (.tmp 2) (.tmp 20) rfl w.heap.size 8 (b ++ zb (8 - b.length)) (zb 8) _ rfl rfl HR2.out.1 info_span HL.out (zb_length _) ?_; intro w3 hw3 hA3; have HA3 := hid hA3; have HW3 := hid hw3; clear hw3 hA3))
      exact bodyPost_ret (results_av1 rfl _ _ _ _ _ rfl HA3.out Tryd.underlying27 info_span HL.out) rfl ⟨rfl, by rw [HW3.out]; exact setRow_below HR2.out.2.2 (Nat.le_refl _) _⟩
/-- A trace's name, as the document reads it. -/
def rep48 : List UInt8 := [48, 48, 48, 48, 48, 48, 48, 48, 48, 48, 48, 48, 48, 48, 48, 48]
theorem hexDec_zeros (s : List UInt8) : hexDec (rep48 ++ s) = (hexDec s).map (zb 8 ++ ·) := by
  have step : ∀ r : List UInt8, hexDec (48 :: 48 :: r) = (hexDec r).map (0 :: ·) := fun r => rfl
  simp only [rep48, List.cons_append, List.nil_append, step]
  cases hexDec s <;> rfl
theorem bytesB_length (s : List UInt8) (n : Nat) : (bytesB s n).length ≤ n := by
  unfold bytesB
  split
  · split
    · rename_i h; omega
    · simp
  · simp
theorem pad_bytes (s : List UInt8) (n : Nat) (hn : n ≠ 0) : bytesB s n ++ zb (n - (bytesB s n).length) = match hexDec s with | some b => if b.length = n then b else zb n | none => zb n := by
  unfold bytesB
  cases hd : hexDec s with
  | none => simp [zb]
  | some b =>
    simp only []
    by_cases hl : b.length = n
    · by_cases hz : b = zb n
      · rw [if_neg (fun h => h.2 hz), if_pos hl, hz]; simp [zb]
      · rw [if_pos ⟨hl, hz⟩, if_pos hl, hl]; simp [zb]
    · rw [if_neg (fun h => hl h.1), if_neg hl]; simp [zb]
def trS (s : List UInt8) : List UInt8 := if s.length = 16 then rep48 ++ s else s
theorem trace_same (s : List UInt8) : (bytesB (trS s) 16 ++ zb (16 - (bytesB (trS s) 16).length) = traceT s) ∧ bytesC (trS s) 16 = traceC s := by
  rw [pad_bytes _ _ (by omega)]
  unfold traceT traceC bytesC trS
  by_cases h16 : s.length = 16
  · rw [if_pos h16, hexDec_zeros]
    cases hd : hexDec s with
    | none => exact ⟨rfl, rfl⟩
    | some b =>
      have hl := hexDec_length s b hd
      have hb : b.length = 8 := by omega
      simp only [Option.map_some]
      have e : (zb 8 ++ b).length = 16 := by simp [hb]
      have c : s.length = 32 ∨ s.length = 16 := .inr h16
      rw [if_pos e, if_pos e, if_pos c, if_pos c, hb]
      exact ⟨rfl, rfl⟩
  · rw [if_neg h16]
    cases hd : hexDec s with
    | none => exact ⟨rfl, rfl⟩
    | some b =>
      have hl := hexDec_length s b hd
      simp only []
      by_cases h32 : s.length = 32
      · have hb : b.length = 16 := by omega
        have c : s.length = 32 ∨ s.length = 16 := .inl h32
        rw [if_pos hb, if_pos hb, if_pos c, if_pos c, hb]
        exact ⟨rfl, rfl⟩
      · have hb : b.length ≠ 16 := by omega
        rw [if_neg hb, if_neg hb, if_neg (by omega), if_neg (by omega)]
        exact ⟨rfl, rfl⟩
theorem span_same (s : List UInt8) : (bytesB s 8 ++ zb (8 - (bytesB s 8).length) = spanT s) ∧ bytesC s 8 = spanC s := by
  rw [pad_bytes _ _ (by omega)]
  unfold spanT spanC bytesC
  cases hd : hexDec s with
  | none => exact ⟨rfl, rfl⟩
  | some b =>
    have hl := hexDec_length s b hd
    simp only []
    by_cases h16 : s.length = 16
    · have hb : b.length = 8 := by omega
      rw [if_pos hb, if_pos hb, if_pos h16, if_pos h16]
      exact ⟨rfl, rfl⟩
    · have hb : b.length ≠ 8 := by omega
      rw [if_neg hb, if_neg hb, if_neg h16, if_neg h16]
      exact ⟨rfl, rfl⟩
set_option maxRecDepth 100000 in
set_option maxHeartbeats 1000000 in
theorem rreadspan_any (s : List UInt8) (w : World) (hs : s.length ≤ 140737488355328) :
    Calls Tryd.prog 41 #[Sv s] w fun e w' => e = .returned (.tuple #[Av (spanT s), .int .i64 (spanC s)]) ∧ Below w.heap.size w w' := by
  have HS := hid (span_same s)
  have HBL := hid (bytesB_length s 8)
  obtain ⟨w0, hw0⟩ : ∃ w0, w0 = w.alloc (.cells #[.int .u8 0, .int .u8 0, .int .u8 0, .int .u8 0, .int .u8 0, .int .u8 0, .int .u8 0, .int .u8 0] 27) := ⟨_, rfl⟩
  have HW0 := hid hw0
  have hB : Blk w0 w.heap.size 27 (b8s (zb 8)).toArray := by rw [hw0]; exact Blk.new w _ _
  have hbw : Below w.heap.size w w0 := by rw [hw0]; exact ext_alloc w _
  have HB := hid hB
  have HBW := hid hbw
  clear hw0 hB hbw
  go_enter Tryd.func41, Tryd.ntmps41
  go_wp2_with fail
  rw [← HW0.out]
  refine (rbytes_any s 8 _ hs (by omega)).mono ?_; rintro e w1 ⟨rfl, hb1⟩
  go_wp2_with fail
  refine (rspan_any (bytesB s 8) _ HBL.out).mono ?_; rintro e w2 ⟨rfl, hb2⟩
  rw [HS.out.1, HS.out.2]
  have HB2 := hid (HB.out.below (ext_trans hb1 hb2) HB.out.lt)
  have HBW2 := hid (HBW.out.trans ((ext_trans hb1 hb2).mono HBW.out.size))
  have HL := hid (spanT_length s)
  clear hb1 hb2
  go_wp2_with (refine wpList_store_av rfl 27 (.tmp 2) (.tmp 12) rfl w.heap.size 8 (spanT s) (zb 8) _ rfl rfl HB2.out info_span HL.out (zb_length _) ?_; intro w3 hw3 hA3; have HA3 := hid hA3; have HW3 := hid hw3; clear hw3 hA3)
  exact bodyPost_ret (results_av2 rfl _ _ _ _ _ rfl HA3.out Tryd.underlying27 info_span HL.out) rfl ⟨rfl, by rw [HW3.out]; exact setRow_below HBW2.out (Nat.le_refl _) _⟩
set_option maxRecDepth 100000 in
set_option maxHeartbeats 1000000 in
theorem rreadtrace_any (s : List UInt8) (w : World) (hs : s.length ≤ 140737488355328) :
    Calls Tryd.prog 40 #[Sv s] w fun e w' => e = .returned (.tuple #[Av (traceT s), .int .i64 (traceC s)]) ∧ Below w.heap.size w w' := by
  have HS := hid (trace_same s)
  have HBL := hid (bytesB_length (trS s) 16)
  obtain ⟨w0, hw0⟩ : ∃ w0, w0 = w.alloc (.cells #[.int .u8 0, .int .u8 0, .int .u8 0, .int .u8 0, .int .u8 0, .int .u8 0, .int .u8 0, .int .u8 0, .int .u8 0, .int .u8 0, .int .u8 0, .int .u8 0, .int .u8 0, .int .u8 0, .int .u8 0, .int .u8 0] 25) := ⟨_, rfl⟩
  have HW0 := hid hw0
  have hB : Blk w0 w.heap.size 25 (b8s (zb 16)).toArray := by rw [hw0]; exact Blk.new w _ _
  have hbw : Below w.heap.size w w0 := by rw [hw0]; exact ext_alloc w _
  have HB := hid hB
  have HBW := hid hbw
  have HL := hid (traceT_length s)
  clear hw0 hB hbw
  by_cases h16 : s.length = 16
  · have ht : trS s = rep48 ++ s := if_pos h16
    have l1 : ((s.length : Int) == 16) = true := by rw [h16]; rfl
    have HT := hid ht
    have hlt : (trS s).length ≤ 140737488355328 := by rw [ht]; simp [rep48]; omega
    clear h16 ht
    go_enter Tryd.func40, Tryd.ntmps40
    go_wp2_with fail
    rw [← HW0.out]
    refine (show Calls Tryd.prog _ #[Sv (rep48 ++ s), .int .i64 16] _ _ from HT.out ▸ (rbytes_any (trS s) 16 w0 hlt (by omega)).mono ?_); rintro e w1 ⟨rfl, hb1⟩
    go_wp2_with fail
    refine (rtrace_any (bytesB (trS s) 16) _ HBL.out).mono ?_; rintro e w2 ⟨rfl, hb2⟩
    rw [HS.out.1, HS.out.2]
    have HB2 := hid (HB.out.below (ext_trans hb1 hb2) HB.out.lt)
    have HBW2 := hid (HBW.out.trans ((ext_trans hb1 hb2).mono HBW.out.size))
    clear hb1 hb2
    go_wp2_with (refine wpList_store_av rfl 25 (.tmp 2) (.tmp 17) rfl w.heap.size 16 (traceT s) (zb 16) _ rfl rfl HB2.out info_trace HL.out (zb_length _) ?_; intro w3 hw3 hA3; have HA3 := hid hA3; have HW3 := hid hw3; clear hw3 hA3)
    exact bodyPost_ret (results_av2 rfl _ _ _ _ _ rfl HA3.out Tryd.underlying25 info_trace HL.out) rfl ⟨rfl, by rw [HW3.out]; exact setRow_below HBW2.out (Nat.le_refl _) _⟩
  · have ht : trS s = s := if_neg h16
    rw [ht] at HS HBL
    have l1 : ((s.length : Int) == 16) = false := by rw [beq_eq_false_iff_ne]; omega
    clear h16 ht
    go_enter Tryd.func40, Tryd.ntmps40
    go_wp2_with fail
    rw [← HW0.out]
    refine (rbytes_any s 16 _ hs (by omega)).mono ?_; rintro e w1 ⟨rfl, hb1⟩
    go_wp2_with fail
    refine (rtrace_any (bytesB s 16) _ HBL.out).mono ?_; rintro e w2 ⟨rfl, hb2⟩
    rw [HS.out.1, HS.out.2]
    have HB2 := hid (HB.out.below (ext_trans hb1 hb2) HB.out.lt)
    have HBW2 := hid (HBW.out.trans ((ext_trans hb1 hb2).mono HBW.out.size))
    clear hb1 hb2
    go_wp2_with (refine wpList_store_av rfl 25 (.tmp 2) (.tmp 17) rfl w.heap.size 16 (traceT s) (zb 16) _ rfl rfl HB2.out info_trace HL.out (zb_length _) ?_; intro w3 hw3 hA3; have HA3 := hid hA3; have HW3 := hid hw3; clear hw3 hA3)
    exact bodyPost_ret (results_av2 rfl _ _ _ _ _ rfl HA3.out Tryd.underlying25 info_trace HL.out) rfl ⟨rfl, by rw [HW3.out]; exact setRow_below HBW2.out (Nat.le_refl _) _⟩
end Go.Proofs.YtgfdmdikiickpaaDoor
