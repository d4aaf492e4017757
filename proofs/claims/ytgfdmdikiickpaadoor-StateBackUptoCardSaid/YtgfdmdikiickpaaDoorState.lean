/-
  Walks of package state and of its reference: bytes of keys and values.
-/
import Derived.Test.YtgfdmdikiickpaaDoorStrs
import Derived.Test.YtgfdmdikiickpaaDoorSteady
namespace Go.Proofs.YtgfdmdikiickpaaDoor
open Go.RowKit

set_option maxRecDepth 100000 in
theorem lower_any (b : Int) (w : World) : Calls Tryd.prog 63 #[.int .u8 b] w fun e w' => e = .returned (.bool (lowK b)) ∧ w = w' := by
  by_cases h : 97 ≤ b
  · have HO := hid (show lowK b = decide (b ≤ 122) by simp [lowK, h])
    go_enter Tryd.func63, Tryd.ntmps63
    go_wp2_with fail
    go_ret
    exact ⟨by rw [HO.out]; rfl, rfl⟩
  · have HO := hid (show lowK b = false by simp [lowK, h])
    go_enter Tryd.func63, Tryd.ntmps63
    go_wp2_with fail
    go_ret
    exact ⟨by rw [HO.out]; rfl, rfl⟩
set_option maxRecDepth 100000 in
theorem digit_any (b : Int) (w : World) : Calls Tryd.prog 64 #[.int .u8 b] w fun e w' => e = .returned (.bool (numK b)) ∧ w = w' := by
  by_cases h : 48 ≤ b
  · have HO := hid (show numK b = decide (b ≤ 57) by simp [numK, h])
    go_enter Tryd.func64, Tryd.ntmps64
    go_wp2_with fail
    go_ret
    exact ⟨by rw [HO.out]; rfl, rfl⟩
  · have HO := hid (show numK b = false by simp [numK, h])
    go_enter Tryd.func64, Tryd.ntmps64
    go_wp2_with fail
    go_ret
    exact ⟨by rw [HO.out]; rfl, rfl⟩
set_option maxRecDepth 100000 in
theorem inkey_any (b : Int) (w : World) : Calls Tryd.prog 61 #[.int .u8 b] w fun e w' => e = .returned (.bool (inKeyB b)) ∧ w = w' := by
  have hl := fun u => lower_any b u
  have hd := fun u => digit_any b u
  have HO := hid (show inKeyB b = (lowK b || (numK b || (b == 95 || (b == 45 || (b == 42 || b == 47))))) from rfl)
  generalize lowK b = L at hl HO
  generalize numK b = D at hd HO
  go_enter Tryd.func61, Tryd.ntmps61
  cases L with
  | true =>
    go_wp2_with ((go_at_call 63; refine (hl _).mono ?_; rintro e w' ⟨rfl, rfl⟩))
    go_ret
    exact ⟨by rw [HO.out]; rfl, rfl⟩
  | false =>
    cases D with
    | true =>
      go_wp2_with (first
        | (go_at_call 63; refine (hl _).mono ?_; rintro e w' ⟨rfl, rfl⟩)
        | (go_at_call 64; refine (hd _).mono ?_; rintro e w' ⟨rfl, rfl⟩))
      go_ret
      exact ⟨by rw [HO.out]; rfl, rfl⟩
    | false =>
      go_wp2_with (first
        | (go_at_call 63; refine (hl _).mono ?_; rintro e w' ⟨rfl, rfl⟩)
        | (go_at_call 64; refine (hd _).mono ?_; rintro e w' ⟨rfl, rfl⟩))
      all_goals go_ret
      all_goals exact ⟨by rw [HO.out]; first | (simp [*, Bool.or_assoc]; done) | (simp [*, Bool.or_assoc]; omega), rfl⟩
set_option maxRecDepth 100000 in
theorem inval_any (b : Int) (w : World) : Calls Tryd.prog 67 #[.int .u8 b] w fun e w' => e = .returned (.bool (inValB b)) ∧ w = w' := by
  have HO := hid (show inValB b = (decide (32 ≤ b) && (decide (b ≤ 126) && (!(b == 44) && !(b == 61)))) from rfl)
  go_enter Tryd.func67, Tryd.ntmps67
  go_wp2_with fail
  all_goals go_ret
  all_goals exact ⟨by rw [HO.out]; first | (simp [*, bne]; done) | (simp [*]; intros; omega), rfl⟩
def fnv (f : FuncId) : Value := .func (.func f) #[] #[]
def AllRel (w : World) (f : FuncId) (p : Int → Bool) (s : List UInt8) (i : Value) (wr : World) : Prop := ∃ k : Nat, i = .int .i64 (k : Int) ∧ k ≤ s.length ∧ Hid (allP p s = allP p (s.drop k)) ∧ Hid (Blk wr w.heap.size 103 #[fnv f] ∧ Below w.heap.size w wr)
set_option maxRecDepth 100000 in
theorem all_any (f : FuncId) (p : Int → Bool) (hcall : ∀ (b : Int) (u : World), (callFunc f #[.int .u8 b]).run Tryd.prog u = .ok (.enter f #[.int .u8 b]) u) (hf : ∀ (b : Int) (u : World), Calls Tryd.prog f #[.int .u8 b] u fun e w' => e = .returned (.bool (p b)) ∧ u = w') (s : List UInt8) (n : Int) (w : World) (hs : s.length ≤ 9223372036854775806) :
    Calls Tryd.prog 62 #[Sv s, .agg #[fnv f], .int .i64 n] w fun e w' => e = .returned (.bool (allB p s n)) ∧ Below w.heap.size w w' := by
  have HB := hid (⟨Blk.new w _ _, ext_alloc w _⟩ : Blk (w.alloc (.cells #[fnv f] 103)) w.heap.size 103 #[fnv f] ∧ Below w.heap.size w (w.alloc (.cells #[fnv f] 103)))
  by_cases h0 : s = []
  · subst h0
    have HO := hid (show allB p [] n = false by simp [allB])
    unfold fnv
    go_enter Tryd.func62, Tryd.ntmps62
    go_wp2_with fail
    go_ret
    exact ⟨by rw [HO.out]; rfl, HB.out.2⟩
  · have hne : (s == []) = false := by simpa using h0
    have hpos : 1 ≤ s.length := by cases s with | nil => exact absurd rfl h0 | cons _ _ => simp
    by_cases hn : n < (s.length : Int)
    · have HO := hid (show allB p s n = false by simp [allB]; omega)
      unfold fnv
      go_enter Tryd.func62, Tryd.ntmps62
      go_wp2_with fail
      go_ret
      exact ⟨by rw [HO.out]; rfl, HB.out.2⟩
    · have HO := hid (show allB p s n = allP p s by simp [allB]; omega)
      have HF := hid hf
      clear hf
      go_enter Tryd.func62, Tryd.ntmps62
      go_wp2_with fail
      go_loopw [18] (fun i wr => AllRel w f p s i wr) (fun i _ => s.length - (intOf i).toNat)
      case atStart => exact ⟨0, rfl, Nat.zero_le _, hid rfl, HB⟩
      case round =>
        obtain ⟨k, rfl, hk, HP, HR⟩ := hrel
        by_cases hlt : k < s.length
        · have HD := hid (allP_drop p s k hlt)
          have qi : (0 : Int) ≤ (k : Int) ∧ (k : Int) < (s.length : Int) := by omega
          have hc := fun u => HF.out (byteAt s k) u
          obtain ⟨b, hb⟩ : ∃ b, p (byteAt s k) = b := ⟨_, rfl⟩
          rw [hb] at HD
          simp only [hb] at hc
          clear hb
          go_upto_region 6 with fail
          refine region_steady (fun u => Blk u w.heap.size 103 #[fnv f] ∧ Below w.heap.size w u) (by kernel_rfl) (by kernel_rfl) ⟨HR.out.1.drew, HR.out.2.trans (ext_drew wr |>.mono HR.out.2.size)⟩ ?_
          repeat (first
            | (refine steady_off (by rfl) ?_; try simp only [Act.put, List.setIfInBounds_toArray, List.set_cons_zero, List.set_cons_succ])
            | (refine steady_pure (v := ?_) (by rfl) ?_ ?_; rotate_left; (focus (intro u; go_simp; with_reducible rfl)); try simp only [Act.put, List.setIfInBounds_toArray, List.set_cons_zero, List.set_cons_succ]))
          refine steady_load (v := fnv f) 101 (.tmp 21) rfl (by rfl) (fun u h => by have := h.1.cell 0; unfold fnv at *; go_simp) ?_
          try simp only [Act.put, List.setIfInBounds_toArray, List.set_cons_zero, List.set_cons_succ]
          repeat (first
            | (refine steady_off (by rfl) ?_; try simp only [Act.put, List.setIfInBounds_toArray, List.set_cons_zero, List.set_cons_succ])
            | (refine steady_pure (v := ?_) (by rfl) ?_ ?_; rotate_left; (focus (intro u; go_simp; with_reducible rfl)); try simp only [Act.put, List.setIfInBounds_toArray, List.set_cons_zero, List.set_cons_succ]))
          refine steady_call (fun u h => (hc u).mono fun e w' ⟨he, hw⟩ => ⟨he, hw ▸ h⟩) (by rfl) (fun u => by have := hcall (byteAt s k) u; unfold fnv; go_simp) ?_
          try simp only [Act.put, List.setIfInBounds_toArray, List.set_cons_zero, List.set_cons_succ]
          repeat (first
            | (refine steady_off (by rfl) ?_; try simp only [Act.put, List.setIfInBounds_toArray, List.set_cons_zero, List.set_cons_succ])
            | (refine steady_pure (v := ?_) (by rfl) ?_ ?_; rotate_left; (focus (intro u; go_simp; with_reducible rfl)); try simp only [Act.put, List.setIfInBounds_toArray, List.set_cons_zero, List.set_cons_succ]))
          refine steady_nil (fun w1 h1 => ?_)
          have H1 := hid h1
          clear h1 hc
          cases b with
          | false =>
            have HO2 := hid (show allB p s n = false by rw [HO.out, HP.out, HD.out]; rfl)
            go_wp2_with fail
            go_ret
            exact ⟨by rw [HO2.out]; rfl, H1.out.2⟩
          | true =>
            have HP2 := hid (show allP p s = allP p (s.drop (k + 1)) by rw [HP.out, HD.out]; rfl)
            go_wp2_with fail
            refine ⟨⟨k + 1, by go_num, hlt, HP2, H1⟩, by simp [intOf] <;> omega⟩
        · obtain rfl : k = s.length := by omega
          have HO2 := hid (show allB p s n = true by rw [HO.out, HP.out, List.drop_length]; rfl)
          go_wp2_with fail
          go_ret
          exact ⟨by rw [HO2.out]; rfl, HR.out.2⟩
theorem allkey_any (s : List UInt8) (n : Int) (w : World) (hs : s.length ≤ 9223372036854775806) :
    Calls Tryd.prog 62 #[Sv s, .agg #[.func (.func 61) #[] #[]], .int .i64 n] w fun e w' => e = .returned (.bool (allB inKeyB s n)) ∧ Below w.heap.size w w' :=
  all_any 61 inKeyB (fun b u => by go_simp) inkey_any s n w hs
theorem allval_any (s : List UInt8) (n : Int) (w : World) (hs : s.length ≤ 9223372036854775806) :
    Calls Tryd.prog 62 #[Sv s, .agg #[.func (.func 67) #[] #[]], .int .i64 n] w fun e w' => e = .returned (.bool (allB inValB s n)) ∧ Below w.heap.size w w' :=
  all_any 67 inValB (fun b u => by go_simp) inval_any s n w hs
theorem allB_pos {f : Int → Bool} {s : List UInt8} {n : Int} (h : allB f s n = true) : 1 ≤ s.length := (allB_of h).2.1
set_option maxRecDepth 100000 in
theorem svalue_any (s : List UInt8) (w : World) (hs : s.length ≤ 9223372036854775806) :
    Calls Tryd.prog 26 #[Sv s] w fun e w' => e = .returned (.bool (valB s)) ∧ Below w.heap.size w w' := by
  have ha := fun u => allval_any s 256 u hs
  have HO := hid (show valB s = (allB inValB s 256 && !(byteAt s (s.length - 1) == 32)) from rfl)
  obtain ⟨b, hb⟩ : ∃ b, allB inValB s 256 = b := ⟨_, rfl⟩
  rw [hb] at HO
  simp only [hb] at ha
  go_enter Tryd.func26, Tryd.ntmps26
  cases b with
  | false =>
    clear hb
    go_wp2_with ((go_at_call 62; refine (ha _).mono ?_; rintro e w1 ⟨rfl, hb1⟩; have HB := hid hb1; clear hb1))
    go_ret
    exact ⟨by rw [HO.out]; rfl, HB.out⟩
  | true =>
    have h1 := allB_pos hb
    clear hb
    go_wp2_with ((go_at_call 62; refine (ha _).mono ?_; rintro e w1 ⟨rfl, hb1⟩; have HB := hid hb1; clear hb1))
    go_ret
    exact ⟨by rw [HO.out]; first | rfl | simp [bne], HB.out⟩
end Go.Proofs.YtgfdmdikiickpaaDoor
