/-
  Walks of the reference of package varint.
-/
import Derived.Test.YtdjbgojdkaipfaaVar
import Derived.Test.YtdjbgojdkaipfaaCurRef
import Derived.Deep.RegionWith
namespace Go.Proofs.Ytdjbgojdkaipfaa
open Go.RowKit

set_option maxRecDepth 100000 in
set_option maxHeartbeats 400000 in
theorem rvpower_any (i : Nat) (w : World) (hi : i ≤ 9) :
    Calls Try.prog 150 #[.int .i64 (i : Int)] w fun e w' => e = .returned (.int .u64 (128 ^ i)) ∧ w = w' := by
  go_enter Try.func150, Try.ntmps150
  go_wp2
  go_loop [3, 4] (fun u k => ∃ j : Nat, j ≤ i ∧ k = .int .i64 (j : Int) ∧ u = .int .u64 (128 ^ j)) (fun _ k => i - (intOf k).toNat)
  case atStart => exact ⟨0, by omega, rfl, rfl⟩
  case round =>
    obtain ⟨j, hj, rfl, rfl⟩ := hrel
    by_cases hlt : j < i
    · have hs := hid (show (128 : Int) ^ (j + 1) = 128 * 128 ^ j by rw [Int.pow_succ, Int.mul_comm])
      have h0 : (0 : Int) < 128 ^ j := Int.pow_pos (by omega)
      have h1 : (128 : Int) ^ j ≤ 72057594037927936 := by
        have : (128 : Nat) ^ j ≤ 128 ^ 8 := Nat.pow_le_pow_right (by omega) (by omega)
        have e : ((128 ^ j : Nat) : Int) = 128 ^ j := by push_cast; rfl
        omega
      generalize (128 : Int) ^ j = q at hs h0 h1 ⊢
      go_wp2
      go_round
      case rel => exact ⟨j + 1, by omega, by go_num, by rw [hs.out]⟩
      case measure => simp [intOf] <;> omega
    · have hji : j = i := by omega
      subst hji
      go_wp2
      go_ret
      exact ⟨rfl, rfl⟩
set_option maxRecDepth 100000 in
set_option maxHeartbeats 400000 in
theorem rvlen_any (s : List UInt8) (pos : Nat) (w : World) (hp : pos ≤ s.length) (hs : s.length ≤ 1125899906842624) :
    Calls Try.prog 149 #[Sv s, .int .i64 (pos : Int)] w fun e w' => e = .returned (.int .i64 (vlen 10 (s.drop pos) : Int)) ∧ w = w' := by
  go_enter Try.func149, Try.ntmps149
  go_wp2
  go_loop [5] (fun i => ∃ k : Nat, k ≤ 10 ∧ pos + k ≤ s.length ∧ i = .int .i64 (k : Int) ∧ ∀ j, j < k → 128 ≤ byteAt s (pos + j)) (fun i => 10 - (intOf i).toNat)
  case atStart => exact ⟨0, by omega, by omega, rfl, by intro j h; omega⟩
  case round =>
    obtain ⟨k, hk, hps, rfl, hh⟩ := hrel
    have HH := hid (show ∀ j, j < k → 128 ≤ byteAt (s.drop pos) j from fun j hj => by rw [byteAt_drop]; exact hh j hj)
    have HH2 := hid hh
    clear hh
    have hdl := hid (show (s.drop pos).length = s.length - pos by simp)
    by_cases hk10 : k < 10
    · by_cases hlt : pos + k < s.length
      · have hN := hid (show byteAt (s.drop pos) k = byteAt s (pos + k) by rw [byteAt_drop])
        have n1 := byteAt_lo s (pos + k)
        have n2 := byteAt_hi s (pos + k)
        have hidx := hid (show ((pos : Int) + (k : Int)).toNat = pos + k by omega)
        by_cases h128 : byteAt s (pos + k) < 128
        · have hv := hid (vlen_found 10 k (s.drop pos) HH.out (by rw [hdl.out]; omega) (by rw [hN.out]; exact h128) hk10)
          go_wp2
          go_ret
          exact ⟨by rw [hv.out]; rfl, rfl⟩
        · have HN := hid h128
          go_wp2
          go_round
          case rel =>
            refine ⟨k + 1, by omega, by omega, by go_num, fun j hj => ?_⟩
            by_cases h9 : j = k
            · subst h9; have := HN.out; omega
            · exact HH2.out j (by omega)
          case measure => simp [intOf] <;> omega
      · have hv := hid (vlen_none 10 k (s.drop pos) HH.out (by rw [hdl.out]; omega) (by omega) (.inr (by rw [hdl.out]; omega)))
        go_wp2
        go_ret
        exact ⟨by rw [hv.out]; rfl, rfl⟩
    · have hv := hid (vlen_none 10 k (s.drop pos) HH.out (by rw [hdl.out]; omega) (by omega) (.inl (by omega)))
      go_wp2
      go_ret
      exact ⟨by rw [hv.out]; rfl, rfl⟩
theorem below_new {w w1 : World} {o : Obj} (h : Below (w.alloc o).heap.size (w.alloc o).drew w1) : Below w.heap.size w w1 :=
  ((Below.refl w.heap.size w).alloc (Nat.le_refl _) o).drew.trans (h.mono (by simp))
theorem below_drew {w w1 : World} (h : Below w.drew.heap.size w.drew w1) : Below w.heap.size w w1 := (Below.refl w.heap.size w).drew.trans h
set_option maxRecDepth 100000 in
set_option maxHeartbeats 1000000 in
theorem rvput_any (f : Nat) : ∀ (u : Int) (w : World), f ≤ 9 → 0 ≤ u → u ≤ 18446744073709551615 → u < 128 ^ (f + 1) →
    Calls Try.prog 123 #[.int .u64 u] w fun e w' => e = .returned (Sv (varB f u)) ∧ Below w.heap.size w w' := by
  induction f with
  | zero =>
    intro u w _ h0 h1 h2
    have hu : u < 128 := by simpa using h2
    have hcv := fun w => conv_one w u h0 (by omega)
    have hw : u % 256 = u := by omega
    clear h2
    go_enter Try.func123, Try.ntmps123
    go_wp2
    go_ret
    exact ⟨rfl, Below.alloc (Below.refl _ _) (Nat.le_refl _) _⟩
  | succ f ih =>
    intro u w hf h0 h1 h2
    by_cases hu : u < 128
    · have hcv := fun w => conv_one w u h0 (by omega)
      have hw : u % 256 = u := by omega
      have hv := hid (show varB (f + 1) u = [bt u] by simp only [varB]; rw [if_pos hu])
      clear h2 ih
      go_enter Try.func123, Try.ntmps123
      go_wp2
      go_ret
      exact ⟨by rw [hv.out]; rfl, Below.alloc (Below.refl _ _) (Nat.le_refl _) _⟩
    · have hv := hid (show varB (f + 1) u = bt (u % 128 + 128) :: varB f (u / 128) by simp only [varB]; rw [if_neg hu])
      have hlen := varB_len_le f (f + 1) (u / 128) (by omega) (by omega) (by rw [Int.pow_succ] at h2; omega)
      have hrec := fun w => ih (u / 128) w (by omega) (by omega) (by omega) (by rw [Int.pow_succ] at h2; omega)
      generalize varB f (u / 128) = R at hv hlen hrec
      have hcv := fun w => conv_one w (u % 128 + 128) (by omega) (by omega)
      have hcv2 : ∀ w : World, (convert 25 9 (.slice (some ⟨w.heap.size, 0, none⟩) 1 1)).run Try.prog (w.alloc (.cells #[.int .u8 (u % 128 + 128)] 5)).drew = .ok (Sv [bt (u % 128 + 128)]) (w.alloc (.cells #[.int .u8 (u % 128 + 128)] 5)).drew :=
        fun w => conv_one w.drew (u % 128 + 128) (by omega) (by omega)
      have hcv3 : ∀ (w w1 : World), Below (w.alloc (.cells #[.int .u8 (u % 128 + 128)] 5)).heap.size (w.alloc (.cells #[.int .u8 (u % 128 + 128)] 5)).drew w1 → (convert 25 9 (.slice (some ⟨w.heap.size, 0, none⟩) 1 1)).run Try.prog w1 = .ok (Sv [bt (u % 128 + 128)]) w1 :=
        fun w w1 hb => run_to_string (Bs.below (bs_new w.drew [bt (u % 128 + 128)] #[.int .u8 (u % 128 + 128)] (0, 0) 1 (by simp [b8s, b8_bt (u % 128 + 128) (by omega) (by omega)]) rfl) hb)
      have e1 : u.tmod 128 = u % 128 := Int.tmod_eq_emod_of_nonneg h0
      have e2 : IntKind.u64.wrap (128 + u % 128) = u % 128 + 128 := by rw [IntKind.wrap_u64]; omega
      have e3 : IntKind.u8.wrap (u % 128 + 128) = u % 128 + 128 := by rw [IntKind.wrap_u8]; omega
      have e4 : u.tdiv 128 = u / 128 := Int.tdiv_eq_ediv_of_nonneg h0
      have e5 : IntKind.u64.wrap (u / 128) = u / 128 := by rw [IntKind.wrap_u64]; omega
      clear h2 ih
      go_enter Try.func123, Try.ntmps123
      go_wp2_with fail
      go_region_with (go_at_call 123; refine (hrec _).mono ?_; rintro e w1 ⟨rfl, hb1⟩; (try (have hcw := hcv3 w w1 hb1)))
      all_goals go_wp2
      all_goals go_ret
      all_goals refine ⟨by rw [hv.out]; rfl, ?_⟩
      all_goals first
        | exact below_new hb1
        | exact (below_drew hb1).alloc (below_drew hb1).size _
end Go.Proofs.Ytdjbgojdkaipfaa
