/-
  Walks of the document's answer for chapter 22: fits, Struct.
-/
import Derived.Test.YtdjbgojdkaipfaaCreadRef
namespace Go.Proofs.Ytdjbgojdkaipfaa
open Go.RowKit

def fitsF (F : Fd) : Int := if bitsK F.kind = 0 then 0 else fitC F.num (bitsK F.kind)
theorem rbits_quiet (k : Int) (w : World) (n : Nat) :
    Calls Try.prog 165 #[.int .u8 k] (w.drewN n) fun e w' => e = .returned (.int .i64 (bitsK k)) ∧ ∃ m, w' = w.drewN m :=
  Calls.quiet_of_same ((rbits_any k (w.drewN n)).mono fun _ _ ⟨he, hm⟩ => ⟨he, hm.symm⟩)
theorem rfit_quiet (x b : Int) (w : World) (n : Nat) (h0 : -9223372036854775808 ≤ x) (h1 : x ≤ 9223372036854775807) (b0 : -9223372036854775808 ≤ b) (b1 : b ≤ 9223372036854775807) :
    Calls Try.prog 167 #[.int .i64 x, .int .i64 b] (w.drewN n) fun e w' => e = .returned (.tuple #[.int .u64 (fitN x b), .int .i64 (fitC x b)]) ∧ ∃ m, w' = w.drewN m :=
  Calls.quiet_of_same ((rfit_any x b (w.drewN n) h0 h1 b0 b1).mono fun _ _ ⟨he, hm⟩ => ⟨he, hm.symm⟩)
theorem bitsK_bd (k : Int) : 0 ≤ bitsK k ∧ bitsK k ≤ 64 := by
  unfold bitsK
  split
  · decide
  · split
    · decide
    · split <;> decide
set_option maxRecDepth 100000 in
set_option maxHeartbeats 1000000 in
theorem rfits_any (F : Fd) (w : World) (h0 : -9223372036854775808 ≤ F.num) (h1 : F.num ≤ 9223372036854775807) :
    Calls Try.prog 137 #[.agg F.cells] w fun e w' => e = .returned (.int .i64 (fitsF F)) ∧ Below w.heap.size w w' := by
  have HA := hid (Blk.new w 122 F.cells)
  have HBW := hid (ext_alloc w (.cells F.cells 122))
  obtain ⟨k0, k1⟩ := bitsK_bd F.kind
  have hF : fitsF F = if bitsK F.kind = 0 then 0 else fitC F.num (bitsK F.kind) := rfl
  obtain ⟨i, k, n, b, t, r⟩ := F
  unfold Fd.cells at *
  simp only at *
  go_enter Try.func137, Try.ntmps137
  go_upto_region 1 with fail
  generalize w.alloc (.cells #[.int .i64 i, .int .u8 k, .int .i64 n, .int .u64 b, Sv t, Sv r] 122) = W1 at HA HBW ⊢
  obtain ⟨p0, p1, p2, p3, p4, p5, _⟩ := blk6 HA.out
  go_wp2_with fail
  refine (rbits_any k _).mono ?_; rintro e w3 ⟨rfl, rfl⟩
  by_cases hb : bitsK k = 0
  · have q : (bitsK k == 0) = true := by simpa using hb
    have HO := hid (show fitsF ⟨i, k, n, b, t, r⟩ = 0 by rw [hF, if_pos hb])
    clear hb hF
    generalize bitsK k = B at *
    go_wp2_with fail
    go_ret
    exact ⟨by rw [HO.out]; rfl, HBW.out⟩
  · have q : (bitsK k == 0) = false := by simpa using hb
    have HO := hid (show fitsF ⟨i, k, n, b, t, r⟩ = fitC n (bitsK k) by rw [hF, if_neg hb])
    have HQB := hid (fun u m => rbits_quiet k u m)
    clear hb hF
    generalize bitsK k = B at *
    have HQF := hid (fun u m => rfit_quiet n B u m h0 h1 (by omega) (by omega))
    go_wp2_with fail
    go_quiet ((first
      | (go_at_call 165; exact HQB.out _ _)
      | (go_at_call 167; exact HQF.out _ _)))
    go_wp2_with fail
    go_ret
    exact ⟨by rw [HO.out]; rfl, below_drewN HBW.out _⟩
theorem fits_cont (id k : Int) (v : List UInt8) : fitsF (contF id k v) = if 4 ≤ k ∧ k ≤ 6 then fitC (zagV (vnum v)) (bitsK k) else 0 := by
  unfold fitsF
  by_cases hk : 4 ≤ k ∧ k ≤ 6
  · have e : contF id k v = ⟨id, k, zagV (vnum v), 0, [], []⟩ := by unfold contF; rw [if_neg (by omega), if_neg (by omega), if_pos hk]
    have hb : bitsK k ≠ 0 := by
      obtain rfl | rfl | rfl : k = 4 ∨ k = 5 ∨ k = 6 := by omega
      all_goals decide
    rw [e, if_neg hb, if_pos hk]
  · have e : (contF id k v).kind = k := by
      unfold contF
      repeat (first | rfl | split)
    have hb : bitsK k = 0 := by
      unfold bitsK
      rw [if_neg (by omega), if_neg (by omega), if_neg (by omega)]
    rw [e, if_pos hb, if_neg hk]
/-- The value fails. -/
theorem LS.fail {m N n : Nat} {s : List UInt8} {c c1 : Cu} {last K : Int} {L : List Fd} (h : LS m N s c last L n) (h0 : c.code = 0) (hr : RdF (fun a => ((fieldR last a).1, (fieldR last a).2.1)) c c1) (hk : (fieldR last c.ahead).2.2.2 ≠ 0)
    (hv : (valF m (fieldR last c.ahead).2.2.2 c1.ahead).1 = K) (hK : K ≠ 0) : stF m N 0 s = (K, 0, []) := by
  obtain ⟨g1, g2⟩ := h.good h0
  obtain ⟨q, rfl⟩ : ∃ q, n = q + 1 := ⟨n - 1, by omega⟩
  obtain ⟨r1, r2⟩ := hr.good h0
  have hz : (fieldR last c.ahead).1 = 0 := fieldR_ok last c.ahead hk
  have e1 := r2 hz
  have ha : c1.ahead = c.ahead.drop (fieldR last c.ahead).2.1 := by rw [e1]; exact (ahead_drop c _).symm
  rw [g2]
  conv => lhs; unfold stF
  rw [if_pos hz, if_neg hk, ← ha, hv, if_neg hK]
  unfold joinS
  rw [if_neg hK]
end Go.Proofs.Ytdjbgojdkaipfaa
