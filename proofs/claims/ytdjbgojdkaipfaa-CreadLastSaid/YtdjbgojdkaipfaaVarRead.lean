/-
  The walk of the reference's reading of a number (printed by vr.py).
-/
import Derived.Test.YtdjbgojdkaipfaaVarRef
namespace Go.Proofs.Ytdjbgojdkaipfaa
open Go.RowKit

theorem rvpower_quiet (i : Nat) (w : World) (n : Nat) (hi : i ≤ 9) :
    Calls Try.prog 150 #[.int .i64 (i : Int)] (w.drewN n) fun e w' => e = .returned (.int .u64 (128 ^ i)) ∧ ∃ m, w' = w.drewN m :=
  Calls.quiet_of_same ((rvpower_any i _ hi).mono fun _ _ ⟨he, hm⟩ => ⟨he, hm.symm⟩)
theorem rv_cap (l : List UInt8) (n k : Nat) (hv : vcode l = 0) (hn : vlen 10 l = n) (hk : k < n) : vval (k + 1) l ≤ 18446744073709551615 := by
  have h10 := (vlen_le 10 l).2
  by_cases h : k + 1 = n
  · have := (vnum_bd l).2
    rw [vnum, if_pos hv, hn, ← h] at this
    exact this
  · have := vval_cap 9 (k + 1) l (by omega)
    omega
theorem below_eq {w w1 : World} (h : w = w1) : Below w.heap.size w w1 := by subst h; exact Below.refl _ _
def RVPost (c : Cu) (w : World) (e : Ending) (w' : World) : Prop :=
  ∃ c' u, e = .returned (.tuple #[agg c', .int .u64 u]) ∧ VRd c c' u ∧ Below w.heap.size w w'
def RVRel (c : Cu) (w : World) (n : Nat) (u i : Value) (wr : World) : Prop :=
  ∃ k : Nat, k ≤ n ∧ i = .int .i64 (k : Int) ∧ u = .int .u64 (vval k c.ahead) ∧ Blk wr w.heap.size 78 #[Sv c.s, .int .i64 c.pos, .int .i64 c.en, .int .i64 c.code] ∧
    Blk wr (w.heap.size + 1) 78 #[Sv [], .int .i64 0, .int .i64 0, .int .i64 0] ∧ Below w.heap.size w wr
set_option maxRecDepth 100000 in
set_option maxHeartbeats 8000000 in
theorem rvread_any (c : Cu) (w : World) (hf : c.fit) :
    Calls Try.prog 117 #[agg c] w fun e w' => RVPost c w e w' := by
  have HBW := hid (Below.refl w.heap.size w)
  have l1 := hf.le1
  have l2 := hf.le2
  have l3 := hf.le3
  by_cases hc : c.code = 0
  case neg =>
    have HC := hid hc
    have hb : (c.code != 0) = true := by simpa using hc
    clear hc
    unfold agg
    go_enter Try.func117, Try.ntmps117
    go_wp2
    exact bodyPost_ret (v := .tuple #[.agg #[Sv c.s, .int .i64 c.pos, .int .i64 c.en, .int .i64 c.code], .int .u64 0]) (by simp only [results, Try.results117]; go_simp) rfl ⟨c, 0, rfl, ⟨rfl, rfl, hf, fun _ => ⟨rfl, rfl⟩, fun h => absurd h HC.out⟩, by (repeat (first | (with_reducible refine Below.drew ?_) | (with_reducible refine Below.setCell ?_ (by simp <;> omega) _) | (with_reducible refine Below.alloc ?_ (by simp <;> omega) _))); exact HBW.out⟩
  case pos =>
    have HC := hid hc
    have hb : (c.code != 0) = false := by rw [hc]; rfl
    have HAL := hid (Cu.ahead_length hf)
    have HAH0 := hid (show c.ahead = (c.s.take c.en).drop c.pos from rfl)
    have hTl : (c.s.take c.en).length = c.en := by rw [List.length_take]; omega
    obtain ⟨v1, v2⟩ := vlen_le 10 c.ahead
    rw [HAL.out] at v1
    generalize hn : vlen 10 c.ahead = n at v1 v2
    have HNA := hid hn
    clear hn hc
    generalize hT : c.s.take c.en = T at hTl HAH0
    have HT := hid hT
    have HAH := HAH0
    have HN := hid (show vlen 10 (T.drop c.pos) = n by rw [← HAH.out]; exact HNA.out)
    clear hT HAH0
    have h9 : byteAt c.ahead 9 = byteAt T (c.pos + 9) := by rw [HAH.out, byteAt_drop]
    have H9 := hid h9
    clear h9
    unfold agg
    by_cases h10 : 10 ≤ (c.en : Int) - c.pos
    case neg =>
      by_cases n0 : n = 0
      · subst n0
        have HV := hid (show vcode c.ahead = 1 by unfold vcode; rw [HNA.out, HAL.out]; rw [if_neg (by omega), if_pos rfl])
        go_enter Try.func117, Try.ntmps117
        go_wp2_with fail
        rw [HT.out]
        refine (rvlen_any T c.pos _ (by omega) (by omega)).mono ?_; rintro e w1 ⟨rfl, hw1⟩
        have hb1 := below_eq hw1
        clear hw1
        obtain ⟨hA, hB, z0, z1, hbw⟩ := box2 hb1
        obtain ⟨p0, p1, p2, p3, f0, f1, f2, f3⟩ := blk4 hA
        obtain ⟨r0, r1, r2, r3, g0, g1, g2, g3⟩ := blk4 hB
        have HA := hid hA
        have HB := hid hB
        have HBW := hid hbw
        clear hA hB hbw hb1
        rw [HN.out]
        go_wp2
        exact bodyPost_ret (v := .tuple #[.agg #[Sv c.s, .int .i64 c.pos, .int .i64 c.en, .int .i64 1], .int .u64 0]) (by simp only [results, Try.results117]; go_simp) rfl ⟨{ c with code := 1 }, 0, rfl, ⟨rfl, rfl, ⟨hf.le1, hf.le2, hf.le3⟩, fun h => absurd HC.out h, fun _ => ⟨HV.out.symm, by rw [vnum, if_neg (by rw [HV.out]; decide)], fun h => absurd (HV.out.symm.trans h) (by decide)⟩⟩, by (repeat (first | (with_reducible refine Below.drew ?_) | (with_reducible refine Below.setCell ?_ (by simp <;> omega) _) | (with_reducible refine Below.alloc ?_ (by simp <;> omega) _))); exact HBW.out⟩
      · have hn0 : ((n : Int) == 0) = false := by simp; omega
        have HV := hid (show vcode c.ahead = 0 by unfold vcode; rw [HNA.out, HAL.out]; rw [if_neg (by omega), if_neg n0])
        go_enter Try.func117, Try.ntmps117
        go_wp2_with fail
        rw [HT.out]
        refine (rvlen_any T c.pos _ (by omega) (by omega)).mono ?_; rintro e w1 ⟨rfl, hw1⟩
        have hb1 := below_eq hw1
        clear hw1
        obtain ⟨hA, hB, z0, z1, hbw⟩ := box2 hb1
        obtain ⟨p0, p1, p2, p3, f0, f1, f2, f3⟩ := blk4 hA
        obtain ⟨r0, r1, r2, r3, g0, g1, g2, g3⟩ := blk4 hB
        have HA := hid hA
        have HB := hid hB
        have HBW := hid hbw
        clear hA hB hbw hb1
        rw [HN.out]
        go_wp2_with fail
        have hrel0 : RVRel c w n (.int .u64 0) (.int .i64 ((0 : Nat) : Int)) w1 := ⟨0, by omega, rfl, rfl, HA.out, HB.out, HBW.out⟩
        clear p0 p1 p2 p3 f0 f1 f2 f3 r0 r1 r2 r3 g0 g1 g2 g3 HA HB HBW
        go_loopw [6, 7] (fun u i wr => RVRel c w n u i wr) (fun _ i _ => n - (intOf i).toNat)
        case atStart => exact hrel0
        case round =>
          clear hrel0
          obtain ⟨k, hk, rfl, rfl, hA, hB, hbw⟩ := hrel
          obtain ⟨p0, p1, p2, p3, f0, f1, f2, f3⟩ := blk4 hA
          obtain ⟨r0, r1, r2, r3, g0, g1, g2, g3⟩ := blk4 hB
          have HA := hid hA
          have HB := hid hB
          have HBW := hid hbw
          clear hA hB hbw
          by_cases hlt : k < n
          · have n1 := byteAt_lo T (c.pos + k)
            have n2 := byteAt_hi T (c.pos + k)
            have hst := hid (show vval (k + 1) c.ahead = vval k c.ahead + byteAt T (c.pos + k) % 128 * 128 ^ k by rw [vval_snoc k c.ahead (by rw [HAL.out]; omega), HAH.out, byteAt_drop])
            have hcap := rv_cap c.ahead n k HV.out HNA.out hlt
            obtain ⟨b0, _⟩ := vval_bd k c.ahead
            obtain ⟨c0, _⟩ := vval_bd (k + 1) c.ahead
            have hidx : ((c.pos : Int) + (k : Int)).toNat = c.pos + k := by omega
            rw [hst.out] at hcap c0
            have hpw : (0 : Int) < 128 ^ k := Int.pow_pos (by omega)
            have hmn : 0 ≤ byteAt T (c.pos + k) % 128 * 128 ^ k := Int.mul_nonneg (by omega) (Int.le_of_lt hpw)
            generalize hVk : vval k c.ahead = V at b0 c0 hcap hst ⊢
            generalize hN : byteAt T (c.pos + k) = N at n1 n2 c0 hcap hst hmn
            have ht : N.tmod 128 = N % 128 := Int.tmod_eq_emod_of_nonneg n1
            have hk9 : k ≤ 9 := by omega
            have hm1 : IntKind.u64.wrap (N % 128 * 128 ^ k) = N % 128 * 128 ^ k := by rw [IntKind.wrap_u64]; generalize N % 128 * 128 ^ k = y at hcap c0 hmn ⊢; omega
            have hm2 : IntKind.u64.wrap (V + N % 128 * 128 ^ k) = V + N % 128 * 128 ^ k := by rw [IntKind.wrap_u64]; generalize N % 128 * 128 ^ k = y at hcap c0 hmn ⊢; omega
            go_wp2_with fail
            go_quiet ((go_at_call 150; exact rvpower_quiet k _ _ hk9))
            go_wp2_with fail
            go_roundw
            case rel => exact ⟨k + 1, by omega, by go_num, by rw [hst.out], HA.out.drewN _, HB.out.drewN _, below_drewN HBW.out _⟩
            case measure => simp [intOf] <;> omega
          · have hkn : k = n := by omega
            subst hkn
            go_wp2
            exact bodyPost_ret (v := .tuple #[.agg #[Sv c.s, .int .i64 ((c.pos : Int) + k), .int .i64 c.en, .int .i64 c.code], .int .u64 (vval k c.ahead)]) (by simp only [results, Try.results117]; go_simp) rfl ⟨{ c with pos := c.pos + k }, vval k c.ahead, rfl, ⟨rfl, rfl, ⟨by show c.pos + k ≤ c.en; omega, hf.le2, hf.le3⟩, fun h => absurd HC.out h, fun _ => ⟨by rw [HV.out]; exact HC.out, by rw [vnum, if_pos HV.out, HNA.out], fun _ => by rw [HNA.out]⟩⟩, by (repeat (first | (with_reducible refine Below.drew ?_) | (with_reducible refine Below.setCell ?_ (by simp <;> omega) _) | (with_reducible refine Below.alloc ?_ (by simp <;> omega) _))); exact HBW.out⟩
    case pos =>
      have hp9 : ((c.pos : Int) + 9).toNat = c.pos + 9 := by omega
      have y1 := byteAt_lo T (c.pos + 9)
      by_cases hby : 1 < byteAt T (c.pos + 9)
      case pos =>
        have hb9 : 1 < byteAt c.ahead 9 := by rw [H9.out]; exact hby
        by_cases n0 : n = 0
        · subst n0
          have HV := hid (show vcode c.ahead = 4 by unfold vcode; rw [HNA.out, HAL.out]; rw [if_pos ⟨by omega, .inl rfl, hb9⟩])
          go_enter Try.func117, Try.ntmps117
          go_wp2_with fail
          rw [HT.out]
          refine (rvlen_any T c.pos _ (by omega) (by omega)).mono ?_; rintro e w1 ⟨rfl, hw1⟩
          have hb1 := below_eq hw1
          clear hw1
          obtain ⟨hA, hB, z0, z1, hbw⟩ := box2 hb1
          obtain ⟨p0, p1, p2, p3, f0, f1, f2, f3⟩ := blk4 hA
          obtain ⟨r0, r1, r2, r3, g0, g1, g2, g3⟩ := blk4 hB
          have HA := hid hA
          have HB := hid hB
          have HBW := hid hbw
          clear hA hB hbw hb1
          rw [HN.out]
          go_wp2
          exact bodyPost_ret (v := .tuple #[.agg #[Sv c.s, .int .i64 c.pos, .int .i64 c.en, .int .i64 4], .int .u64 0]) (by simp only [results, Try.results117]; go_simp) rfl ⟨{ c with code := 4 }, 0, rfl, ⟨rfl, rfl, ⟨hf.le1, hf.le2, hf.le3⟩, fun h => absurd HC.out h, fun _ => ⟨HV.out.symm, by rw [vnum, if_neg (by rw [HV.out]; decide)], fun h => absurd (HV.out.symm.trans h) (by decide)⟩⟩, by (repeat (first | (with_reducible refine Below.drew ?_) | (with_reducible refine Below.setCell ?_ (by simp <;> omega) _) | (with_reducible refine Below.alloc ?_ (by simp <;> omega) _))); exact HBW.out⟩
        · have hn0 : ((n : Int) == 0) = false := by simp; omega
          by_cases n10 : n = 10
          · subst n10
            have HV := hid (show vcode c.ahead = 4 by unfold vcode; rw [HNA.out, HAL.out]; rw [if_pos ⟨by omega, .inr rfl, hb9⟩])
            go_enter Try.func117, Try.ntmps117
            go_wp2_with fail
            rw [HT.out]
            refine (rvlen_any T c.pos _ (by omega) (by omega)).mono ?_; rintro e w1 ⟨rfl, hw1⟩
            have hb1 := below_eq hw1
            clear hw1
            obtain ⟨hA, hB, z0, z1, hbw⟩ := box2 hb1
            obtain ⟨p0, p1, p2, p3, f0, f1, f2, f3⟩ := blk4 hA
            obtain ⟨r0, r1, r2, r3, g0, g1, g2, g3⟩ := blk4 hB
            have HA := hid hA
            have HB := hid hB
            have HBW := hid hbw
            clear hA hB hbw hb1
            rw [HN.out]
            go_wp2
            exact bodyPost_ret (v := .tuple #[.agg #[Sv c.s, .int .i64 c.pos, .int .i64 c.en, .int .i64 4], .int .u64 0]) (by simp only [results, Try.results117]; go_simp) rfl ⟨{ c with code := 4 }, 0, rfl, ⟨rfl, rfl, ⟨hf.le1, hf.le2, hf.le3⟩, fun h => absurd HC.out h, fun _ => ⟨HV.out.symm, by rw [vnum, if_neg (by rw [HV.out]; decide)], fun h => absurd (HV.out.symm.trans h) (by decide)⟩⟩, by (repeat (first | (with_reducible refine Below.drew ?_) | (with_reducible refine Below.setCell ?_ (by simp <;> omega) _) | (with_reducible refine Below.alloc ?_ (by simp <;> omega) _))); exact HBW.out⟩
          · have hn10 : ((n : Int) == 10) = false := by simp; omega
            have HV := hid (show vcode c.ahead = 0 by unfold vcode; rw [HNA.out, HAL.out]; rw [if_neg (by omega), if_neg n0])
            go_enter Try.func117, Try.ntmps117
            go_wp2_with fail
            rw [HT.out]
            refine (rvlen_any T c.pos _ (by omega) (by omega)).mono ?_; rintro e w1 ⟨rfl, hw1⟩
            have hb1 := below_eq hw1
            clear hw1
            obtain ⟨hA, hB, z0, z1, hbw⟩ := box2 hb1
            obtain ⟨p0, p1, p2, p3, f0, f1, f2, f3⟩ := blk4 hA
            obtain ⟨r0, r1, r2, r3, g0, g1, g2, g3⟩ := blk4 hB
            have HA := hid hA
            have HB := hid hB
            have HBW := hid hbw
            clear hA hB hbw hb1
            rw [HN.out]
            go_wp2_with fail
            have hrel0 : RVRel c w n (.int .u64 0) (.int .i64 ((0 : Nat) : Int)) w1 := ⟨0, by omega, rfl, rfl, HA.out, HB.out, HBW.out⟩
            clear p0 p1 p2 p3 f0 f1 f2 f3 r0 r1 r2 r3 g0 g1 g2 g3 HA HB HBW
            go_loopw [6, 7] (fun u i wr => RVRel c w n u i wr) (fun _ i _ => n - (intOf i).toNat)
            case atStart => exact hrel0
            case round =>
              clear hrel0
              obtain ⟨k, hk, rfl, rfl, hA, hB, hbw⟩ := hrel
              obtain ⟨p0, p1, p2, p3, f0, f1, f2, f3⟩ := blk4 hA
              obtain ⟨r0, r1, r2, r3, g0, g1, g2, g3⟩ := blk4 hB
              have HA := hid hA
              have HB := hid hB
              have HBW := hid hbw
              clear hA hB hbw
              by_cases hlt : k < n
              · have n1 := byteAt_lo T (c.pos + k)
                have n2 := byteAt_hi T (c.pos + k)
                have hst := hid (show vval (k + 1) c.ahead = vval k c.ahead + byteAt T (c.pos + k) % 128 * 128 ^ k by rw [vval_snoc k c.ahead (by rw [HAL.out]; omega), HAH.out, byteAt_drop])
                have hcap := rv_cap c.ahead n k HV.out HNA.out hlt
                obtain ⟨b0, _⟩ := vval_bd k c.ahead
                obtain ⟨c0, _⟩ := vval_bd (k + 1) c.ahead
                have hidx : ((c.pos : Int) + (k : Int)).toNat = c.pos + k := by omega
                rw [hst.out] at hcap c0
                have hpw : (0 : Int) < 128 ^ k := Int.pow_pos (by omega)
                have hmn : 0 ≤ byteAt T (c.pos + k) % 128 * 128 ^ k := Int.mul_nonneg (by omega) (Int.le_of_lt hpw)
                generalize hVk : vval k c.ahead = V at b0 c0 hcap hst ⊢
                generalize hN : byteAt T (c.pos + k) = N at n1 n2 c0 hcap hst hmn
                have ht : N.tmod 128 = N % 128 := Int.tmod_eq_emod_of_nonneg n1
                have hk9 : k ≤ 9 := by omega
                have hm1 : IntKind.u64.wrap (N % 128 * 128 ^ k) = N % 128 * 128 ^ k := by rw [IntKind.wrap_u64]; generalize N % 128 * 128 ^ k = y at hcap c0 hmn ⊢; omega
                have hm2 : IntKind.u64.wrap (V + N % 128 * 128 ^ k) = V + N % 128 * 128 ^ k := by rw [IntKind.wrap_u64]; generalize N % 128 * 128 ^ k = y at hcap c0 hmn ⊢; omega
                go_wp2_with fail
                go_quiet ((go_at_call 150; exact rvpower_quiet k _ _ hk9))
                go_wp2_with fail
                go_roundw
                case rel => exact ⟨k + 1, by omega, by go_num, by rw [hst.out], HA.out.drewN _, HB.out.drewN _, below_drewN HBW.out _⟩
                case measure => simp [intOf] <;> omega
              · have hkn : k = n := by omega
                subst hkn
                go_wp2
                exact bodyPost_ret (v := .tuple #[.agg #[Sv c.s, .int .i64 ((c.pos : Int) + k), .int .i64 c.en, .int .i64 c.code], .int .u64 (vval k c.ahead)]) (by simp only [results, Try.results117]; go_simp) rfl ⟨{ c with pos := c.pos + k }, vval k c.ahead, rfl, ⟨rfl, rfl, ⟨by show c.pos + k ≤ c.en; omega, hf.le2, hf.le3⟩, fun h => absurd HC.out h, fun _ => ⟨by rw [HV.out]; exact HC.out, by rw [vnum, if_pos HV.out, HNA.out], fun _ => by rw [HNA.out]⟩⟩, by (repeat (first | (with_reducible refine Below.drew ?_) | (with_reducible refine Below.setCell ?_ (by simp <;> omega) _) | (with_reducible refine Below.alloc ?_ (by simp <;> omega) _))); exact HBW.out⟩
      case neg =>
        by_cases n0 : n = 0
        · subst n0
          have HV := hid (show vcode c.ahead = 1 by unfold vcode; rw [HNA.out, HAL.out]; rw [if_neg (by rw [H9.out]; omega), if_pos rfl])
          go_enter Try.func117, Try.ntmps117
          go_wp2_with fail
          rw [HT.out]
          refine (rvlen_any T c.pos _ (by omega) (by omega)).mono ?_; rintro e w1 ⟨rfl, hw1⟩
          have hb1 := below_eq hw1
          clear hw1
          obtain ⟨hA, hB, z0, z1, hbw⟩ := box2 hb1
          obtain ⟨p0, p1, p2, p3, f0, f1, f2, f3⟩ := blk4 hA
          obtain ⟨r0, r1, r2, r3, g0, g1, g2, g3⟩ := blk4 hB
          have HA := hid hA
          have HB := hid hB
          have HBW := hid hbw
          clear hA hB hbw hb1
          rw [HN.out]
          go_wp2
          exact bodyPost_ret (v := .tuple #[.agg #[Sv c.s, .int .i64 c.pos, .int .i64 c.en, .int .i64 1], .int .u64 0]) (by simp only [results, Try.results117]; go_simp) rfl ⟨{ c with code := 1 }, 0, rfl, ⟨rfl, rfl, ⟨hf.le1, hf.le2, hf.le3⟩, fun h => absurd HC.out h, fun _ => ⟨HV.out.symm, by rw [vnum, if_neg (by rw [HV.out]; decide)], fun h => absurd (HV.out.symm.trans h) (by decide)⟩⟩, by (repeat (first | (with_reducible refine Below.drew ?_) | (with_reducible refine Below.setCell ?_ (by simp <;> omega) _) | (with_reducible refine Below.alloc ?_ (by simp <;> omega) _))); exact HBW.out⟩
        · have hn0 : ((n : Int) == 0) = false := by simp; omega
          have HV := hid (show vcode c.ahead = 0 by unfold vcode; rw [HNA.out, HAL.out]; rw [if_neg (by rw [H9.out]; omega), if_neg n0])
          by_cases n10 : n = 10
          · have hn10 : ((n : Int) == 10) = true := by subst n10; rfl
            go_enter Try.func117, Try.ntmps117
            go_wp2_with fail
            rw [HT.out]
            refine (rvlen_any T c.pos _ (by omega) (by omega)).mono ?_; rintro e w1 ⟨rfl, hw1⟩
            have hb1 := below_eq hw1
            clear hw1
            obtain ⟨hA, hB, z0, z1, hbw⟩ := box2 hb1
            obtain ⟨p0, p1, p2, p3, f0, f1, f2, f3⟩ := blk4 hA
            obtain ⟨r0, r1, r2, r3, g0, g1, g2, g3⟩ := blk4 hB
            have HA := hid hA
            have HB := hid hB
            have HBW := hid hbw
            clear hA hB hbw hb1
            rw [HN.out]
            go_wp2_with fail
            have hrel0 : RVRel c w n (.int .u64 0) (.int .i64 ((0 : Nat) : Int)) w1 := ⟨0, by omega, rfl, rfl, HA.out, HB.out, HBW.out⟩
            clear p0 p1 p2 p3 f0 f1 f2 f3 r0 r1 r2 r3 g0 g1 g2 g3 HA HB HBW
            go_loopw [6, 7] (fun u i wr => RVRel c w n u i wr) (fun _ i _ => n - (intOf i).toNat)
            case atStart => exact hrel0
            case round =>
              clear hrel0
              obtain ⟨k, hk, rfl, rfl, hA, hB, hbw⟩ := hrel
              obtain ⟨p0, p1, p2, p3, f0, f1, f2, f3⟩ := blk4 hA
              obtain ⟨r0, r1, r2, r3, g0, g1, g2, g3⟩ := blk4 hB
              have HA := hid hA
              have HB := hid hB
              have HBW := hid hbw
              clear hA hB hbw
              by_cases hlt : k < n
              · have n1 := byteAt_lo T (c.pos + k)
                have n2 := byteAt_hi T (c.pos + k)
                have hst := hid (show vval (k + 1) c.ahead = vval k c.ahead + byteAt T (c.pos + k) % 128 * 128 ^ k by rw [vval_snoc k c.ahead (by rw [HAL.out]; omega), HAH.out, byteAt_drop])
                have hcap := rv_cap c.ahead n k HV.out HNA.out hlt
                obtain ⟨b0, _⟩ := vval_bd k c.ahead
                obtain ⟨c0, _⟩ := vval_bd (k + 1) c.ahead
                have hidx : ((c.pos : Int) + (k : Int)).toNat = c.pos + k := by omega
                rw [hst.out] at hcap c0
                have hpw : (0 : Int) < 128 ^ k := Int.pow_pos (by omega)
                have hmn : 0 ≤ byteAt T (c.pos + k) % 128 * 128 ^ k := Int.mul_nonneg (by omega) (Int.le_of_lt hpw)
                generalize hVk : vval k c.ahead = V at b0 c0 hcap hst ⊢
                generalize hN : byteAt T (c.pos + k) = N at n1 n2 c0 hcap hst hmn
                have ht : N.tmod 128 = N % 128 := Int.tmod_eq_emod_of_nonneg n1
                have hk9 : k ≤ 9 := by omega
                have hm1 : IntKind.u64.wrap (N % 128 * 128 ^ k) = N % 128 * 128 ^ k := by rw [IntKind.wrap_u64]; generalize N % 128 * 128 ^ k = y at hcap c0 hmn ⊢; omega
                have hm2 : IntKind.u64.wrap (V + N % 128 * 128 ^ k) = V + N % 128 * 128 ^ k := by rw [IntKind.wrap_u64]; generalize N % 128 * 128 ^ k = y at hcap c0 hmn ⊢; omega
                go_wp2_with fail
                go_quiet ((go_at_call 150; exact rvpower_quiet k _ _ hk9))
                go_wp2_with fail
                go_roundw
                case rel => exact ⟨k + 1, by omega, by go_num, by rw [hst.out], HA.out.drewN _, HB.out.drewN _, below_drewN HBW.out _⟩
                case measure => simp [intOf] <;> omega
              · have hkn : k = n := by omega
                subst hkn
                go_wp2
                exact bodyPost_ret (v := .tuple #[.agg #[Sv c.s, .int .i64 ((c.pos : Int) + k), .int .i64 c.en, .int .i64 c.code], .int .u64 (vval k c.ahead)]) (by simp only [results, Try.results117]; go_simp) rfl ⟨{ c with pos := c.pos + k }, vval k c.ahead, rfl, ⟨rfl, rfl, ⟨by show c.pos + k ≤ c.en; omega, hf.le2, hf.le3⟩, fun h => absurd HC.out h, fun _ => ⟨by rw [HV.out]; exact HC.out, by rw [vnum, if_pos HV.out, HNA.out], fun _ => by rw [HNA.out]⟩⟩, by (repeat (first | (with_reducible refine Below.drew ?_) | (with_reducible refine Below.setCell ?_ (by simp <;> omega) _) | (with_reducible refine Below.alloc ?_ (by simp <;> omega) _))); exact HBW.out⟩
          · have hn10 : ((n : Int) == 10) = false := by simp; omega
            go_enter Try.func117, Try.ntmps117
            go_wp2_with fail
            rw [HT.out]
            refine (rvlen_any T c.pos _ (by omega) (by omega)).mono ?_; rintro e w1 ⟨rfl, hw1⟩
            have hb1 := below_eq hw1
            clear hw1
            obtain ⟨hA, hB, z0, z1, hbw⟩ := box2 hb1
            obtain ⟨p0, p1, p2, p3, f0, f1, f2, f3⟩ := blk4 hA
            obtain ⟨r0, r1, r2, r3, g0, g1, g2, g3⟩ := blk4 hB
            have HA := hid hA
            have HB := hid hB
            have HBW := hid hbw
            clear hA hB hbw hb1
            rw [HN.out]
            go_wp2_with fail
            have hrel0 : RVRel c w n (.int .u64 0) (.int .i64 ((0 : Nat) : Int)) w1 := ⟨0, by omega, rfl, rfl, HA.out, HB.out, HBW.out⟩
            clear p0 p1 p2 p3 f0 f1 f2 f3 r0 r1 r2 r3 g0 g1 g2 g3 HA HB HBW
            go_loopw [6, 7] (fun u i wr => RVRel c w n u i wr) (fun _ i _ => n - (intOf i).toNat)
            case atStart => exact hrel0
            case round =>
              clear hrel0
              obtain ⟨k, hk, rfl, rfl, hA, hB, hbw⟩ := hrel
              obtain ⟨p0, p1, p2, p3, f0, f1, f2, f3⟩ := blk4 hA
              obtain ⟨r0, r1, r2, r3, g0, g1, g2, g3⟩ := blk4 hB
              have HA := hid hA
              have HB := hid hB
              have HBW := hid hbw
              clear hA hB hbw
              by_cases hlt : k < n
              · have n1 := byteAt_lo T (c.pos + k)
                have n2 := byteAt_hi T (c.pos + k)
                have hst := hid (show vval (k + 1) c.ahead = vval k c.ahead + byteAt T (c.pos + k) % 128 * 128 ^ k by rw [vval_snoc k c.ahead (by rw [HAL.out]; omega), HAH.out, byteAt_drop])
                have hcap := rv_cap c.ahead n k HV.out HNA.out hlt
                obtain ⟨b0, _⟩ := vval_bd k c.ahead
                obtain ⟨c0, _⟩ := vval_bd (k + 1) c.ahead
                have hidx : ((c.pos : Int) + (k : Int)).toNat = c.pos + k := by omega
                rw [hst.out] at hcap c0
                have hpw : (0 : Int) < 128 ^ k := Int.pow_pos (by omega)
                have hmn : 0 ≤ byteAt T (c.pos + k) % 128 * 128 ^ k := Int.mul_nonneg (by omega) (Int.le_of_lt hpw)
                generalize hVk : vval k c.ahead = V at b0 c0 hcap hst ⊢
                generalize hN : byteAt T (c.pos + k) = N at n1 n2 c0 hcap hst hmn
                have ht : N.tmod 128 = N % 128 := Int.tmod_eq_emod_of_nonneg n1
                have hk9 : k ≤ 9 := by omega
                have hm1 : IntKind.u64.wrap (N % 128 * 128 ^ k) = N % 128 * 128 ^ k := by rw [IntKind.wrap_u64]; generalize N % 128 * 128 ^ k = y at hcap c0 hmn ⊢; omega
                have hm2 : IntKind.u64.wrap (V + N % 128 * 128 ^ k) = V + N % 128 * 128 ^ k := by rw [IntKind.wrap_u64]; generalize N % 128 * 128 ^ k = y at hcap c0 hmn ⊢; omega
                go_wp2_with fail
                go_quiet ((go_at_call 150; exact rvpower_quiet k _ _ hk9))
                go_wp2_with fail
                go_roundw
                case rel => exact ⟨k + 1, by omega, by go_num, by rw [hst.out], HA.out.drewN _, HB.out.drewN _, below_drewN HBW.out _⟩
                case measure => simp [intOf] <;> omega
              · have hkn : k = n := by omega
                subst hkn
                go_wp2
                exact bodyPost_ret (v := .tuple #[.agg #[Sv c.s, .int .i64 ((c.pos : Int) + k), .int .i64 c.en, .int .i64 c.code], .int .u64 (vval k c.ahead)]) (by simp only [results, Try.results117]; go_simp) rfl ⟨{ c with pos := c.pos + k }, vval k c.ahead, rfl, ⟨rfl, rfl, ⟨by show c.pos + k ≤ c.en; omega, hf.le2, hf.le3⟩, fun h => absurd HC.out h, fun _ => ⟨by rw [HV.out]; exact HC.out, by rw [vnum, if_pos HV.out, HNA.out], fun _ => by rw [HNA.out]⟩⟩, by (repeat (first | (with_reducible refine Below.drew ?_) | (with_reducible refine Below.setCell ?_ (by simp <;> omega) _) | (with_reducible refine Below.alloc ?_ (by simp <;> omega) _))); exact HBW.out⟩
end Go.Proofs.Ytdjbgojdkaipfaa
