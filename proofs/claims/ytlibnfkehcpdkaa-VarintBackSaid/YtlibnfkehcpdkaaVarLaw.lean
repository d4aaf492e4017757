/-
  The laws of chapter 3: walks.
-/
import Derived.Test.YtlibnfkehcpdkaaVarRead
namespace Go.Proofs.Ytlibnfkehcpdkaa
open Go.RowKit

theorem start_ahead (s : List UInt8) : (Cu.start s).ahead = s := by
  show (s.take s.length).drop 0 = s
  rw [List.take_length]; rfl
theorem VRd.is_ok {c c' : Cu} {u : Int} (h : VRd c c' u) (h0 : c.code = 0) (hv : vcode c.ahead = 0) : c' = { c with pos := c.pos + vlen 10 c.ahead } ∧ u = vnum c.ahead :=
  ⟨(h.good h0).2.2 hv, (h.good h0).2.1⟩
def vfin (s : List UInt8) : Int := if vcode s ≠ 0 then vcode s else if vlen 10 s < s.length then 2 else 0
theorem VRd.start {s : List UInt8} {c' : Cu} {u : Int} (h : VRd (Cu.start s) c' u) : u = vnum s ∧ c'.fin = vfin s := by
  obtain ⟨h1, h2, h3⟩ := h.good rfl
  rw [start_ahead] at h1 h2 h3
  refine ⟨h2, ?_⟩
  unfold Cu.fin vfin
  by_cases hv : vcode s = 0
  · rw [h3 hv, hv]
    show (if (0 : Int) ≠ 0 then _ else if 0 + vlen 10 s < s.length then 2 else 0) = _
    rw [Nat.zero_add]
    rfl
  · rw [h1, if_pos hv, if_pos hv]
theorem vfin_whole (s : List UInt8) : vfin s = 0 ↔ vwhole s := by
  have := (vlen_le 10 s).1
  unfold vfin vwhole
  constructor
  · intro h
    by_cases hv : vcode s = 0
    · rw [if_neg (by simpa using hv)] at h
      refine ⟨hv, ?_⟩
      split at h
      · simp at h
      · omega
    · rw [if_pos hv] at h; exact absurd h hv
  · rintro ⟨h1, h2⟩
    rw [if_neg (by simpa using h1), if_neg (by omega)]
def shortB (s : List UInt8) : Bool := decide (vfin s = 0) && decide (varB 9 (vnum s) = s)
set_option maxHeartbeats 400000 in
theorem vshort_any (s : List UInt8) (w : World) (hs : s.length ≤ 1125899906842624) :
    Calls Try.prog 41 #[Sv s] w fun e w' => e = .returned (.bool (shortB s)) ∧ Below w.heap.size w w' := by
  obtain ⟨u0, u1⟩ := vnum_bd s
  by_cases hf : vfin s = 0
  · have hb : (vfin s == 0) = true := by simpa using hf
    have hl := short_iff s ((vfin_whole s).1 hf)
    have hS : shortB s = (((varB 9 (vnum s)).length : Int) == (s.length : Int)) := by
      unfold shortB
      rw [decide_eq_true hf, Bool.true_and, Bool.eq_iff_iff, beq_iff_eq, decide_eq_true_iff, ← hl]
      omega
    have HS := hid hS
    clear hS hl hf
    go_enter Try.func41, Try.ntmps41
    go_wp2_with fail
    refine (new_any s _ hs).mono ?_; rintro e w1 ⟨b, rfl, hb1, hc1, hw1⟩
    go_wp2_with fail
    refine (vread_any b _ _ hc1 (Cu.start_fit hs)).mono ?_; rintro e w2 ⟨c', u, rfl, hv, hc2, hg2⟩
    obtain ⟨rfl, hfin⟩ := hv.start
    have B2 := hid (below_only hw1 hg2 hw1.size hb1)
    go_wp2_with fail
    refine (end_any b _ _ hc2 hv.fit).mono ?_; rintro e w3 ⟨rfl, n3, rfl⟩
    rw [hfin]
    clear hfin hv hc1 hw1 hg2
    go_wp2_with fail
    refine (vsize_any (vnum s) _ u0 u1).mono ?_; rintro e w4 ⟨rfl, rfl⟩
    go_wp2
    go_ret
    exact ⟨by rw [HS.out]; rfl, below_drewN B2.out _⟩
  · have hb : (vfin s == 0) = false := by simpa using hf
    have HS := hid (show shortB s = false by simp [shortB, hf])
    clear hf
    go_enter Try.func41, Try.ntmps41
    go_wp2_with fail
    refine (new_any s _ hs).mono ?_; rintro e w1 ⟨b, rfl, hb1, hc1, hw1⟩
    go_wp2_with fail
    refine (vread_any b _ _ hc1 (Cu.start_fit hs)).mono ?_; rintro e w2 ⟨c', u, rfl, hv, hc2, hg2⟩
    obtain ⟨rfl, hfin⟩ := hv.start
    have B2 := hid (below_only hw1 hg2 hw1.size hb1)
    go_wp2_with fail
    refine (end_any b _ _ hc2 hv.fit).mono ?_; rintro e w3 ⟨rfl, n3, rfl⟩
    rw [hfin]
    clear hfin hv hc1 hw1 hg2
    go_wp2
    go_ret
    exact ⟨by rw [HS.out]; rfl, below_drewN B2.out _⟩
set_option maxHeartbeats 400000 in
theorem rvshort_any (s : List UInt8) (w : World) (hs : s.length ≤ 1125899906842624) :
    Calls Try.prog 43 #[Sv s] w fun e w' => e = .returned (.bool (shortB s)) ∧ Below w.heap.size w w' := by
  obtain ⟨u0, u1⟩ := vnum_bd s
  by_cases hf : vfin s = 0
  · have hb : (vfin s == 0) = true := by simpa using hf
    have hS : shortB s = (varB 9 (vnum s) == s) := by
      unfold shortB
      rw [decide_eq_true hf, Bool.true_and, Bool.eq_iff_iff, beq_iff_eq, decide_eq_true_iff]
    have HS := hid hS
    clear hS hf
    go_enter Try.func43, Try.ntmps43
    go_wp2_with fail
    refine (rnew_any s _).mono ?_; rintro e w1 ⟨rfl, hw1⟩
    go_wp2_with fail
    refine (rvread_any _ _ (Cu.start_fit hs)).mono ?_; rintro e w2 ⟨c', u, rfl, hv, hw2⟩
    obtain ⟨rfl, hfin⟩ := hv.start
    have B2 := hid (hw1.trans (hw2.mono hw1.size))
    clear hv hw1 hw2
    unfold agg
    go_wp2_with fail
    refine (rend_any c' _).mono ?_; rintro e w3 ⟨rfl, hw3⟩
    rw [hfin]
    clear hfin
    go_wp2_with fail
    refine (rvput_any 9 (vnum s) _ (by omega) u0 u1 (by omega)).mono ?_; rintro e w4 ⟨rfl, hw4⟩
    go_wp2
    go_ret
    exact ⟨by rw [HS.out]; rfl, (B2.out.alloc B2.out.size _).trans ((hw3.mono (by have := B2.out.size; simp; omega)).trans (hw4.mono (by have := B2.out.size; have := hw3.size; simp at this; omega)))⟩
  · have hb : (vfin s == 0) = false := by simpa using hf
    have HS := hid (show shortB s = false by simp [shortB, hf])
    clear hf
    go_enter Try.func43, Try.ntmps43
    go_wp2_with fail
    refine (rnew_any s _).mono ?_; rintro e w1 ⟨rfl, hw1⟩
    go_wp2_with fail
    refine (rvread_any _ _ (Cu.start_fit hs)).mono ?_; rintro e w2 ⟨c', u, rfl, hv, hw2⟩
    obtain ⟨rfl, hfin⟩ := hv.start
    have B2 := hid (hw1.trans (hw2.mono hw1.size))
    clear hv hw1 hw2
    unfold agg
    go_wp2_with fail
    refine (rend_any c' _).mono ?_; rintro e w3 ⟨rfl, hw3⟩
    rw [hfin]
    clear hfin
    go_wp2
    go_ret
    exact ⟨by rw [HS.out]; rfl, (B2.out.alloc B2.out.size _).trans (hw3.mono (by have := B2.out.size; simp; omega))⟩
set_option maxRecDepth 100000 in
set_option maxHeartbeats 1000000 in
theorem vworks_any (w : World) :
    Calls Try.prog 42 #[] w fun e w' => e = .returned (.bool true) ∧ Below w.heap.size w w' := by
  go_enter Try.func42, Try.ntmps42
  go_wp2_with fail
  refine (new_any [172, 2, 128, 0, 255] _ (by decide)).mono ?_; rintro e w1 ⟨b, rfl, hb, hc1, hw1⟩
  go_wp2_with fail
  refine (vread_any b _ _ hc1 (Cu.start_fit (by decide))).mono ?_; rintro e w2 ⟨c2, u2, rfl, hv2, hc2, hg2⟩
  obtain ⟨rfl, rfl⟩ := hv2.is_ok (c := Cu.start [172, 2, 128, 0, 255]) rfl (by decide +kernel)
  have B2 := hid (below_only hw1 hg2 hw1.size hb)
  have hf2 := hv2.fit
  rw [show vnum (Cu.start [172, 2, 128, 0, 255]).ahead = 300 by decide +kernel]
  clear hw1 hg2 hv2 hc1
  go_wp2_with fail
  refine (vread_any b _ _ hc2 hf2).mono ?_; rintro e w3 ⟨c3, u3, rfl, hv3, hc3, hg3⟩
  obtain ⟨rfl, hu3⟩ := hv3.is_ok rfl (by decide +kernel)
  replace hu3 : u3 = 0 := hu3.trans (by decide +kernel)
  subst hu3
  have B3 := hid (below_only B2.out hg3 B2.out.size hb)
  have hf3 := hv3.fit
  clear hv3 hg3 hc2 hf2
  go_wp2_with fail
  refine (vread_any b _ _ hc3 hf3).mono ?_; rintro e w4 ⟨c4, u4, rfl, hv4, hc4, hg4⟩
  have B4 := hid (below_only B3.out hg4 B3.out.size hb)
  obtain ⟨q1, q2, _⟩ := hv4.good rfl
  replace q1 : c4.code = 1 := q1.trans (by decide +kernel)
  replace q2 : u4 = 0 := q2.trans (by decide +kernel)
  subst q2
  have hbl := CurAt.lt hc4
  clear hv4 hg4 hc3 hf3
  go_wp2_with fail
  refine (vput_any _ [112] 300 _ (bs_new w4 [112] #[.int .u8 112] (1, 2) 1 rfl rfl) (by decide) (by decide) (by decide)).mono ?_; rintro e w5 ⟨v, rfl, hown, hb5⟩
  have hts := run_to_string hown.bs
  rw [show [112] ++ varB 9 300 = [112, 172, 2] by decide +kernel] at hts
  have hc5 := Blk.below (Blk.alloc hc4 _) hb5 (by simp; omega)
  go_wp2_with fail
  refine (err_any b _ _ hc5).mono ?_; rintro e w6 ⟨rfl, rfl⟩
  rw [q1]
  go_wp2_with fail
  refine (vsize_any 18446744073709551615 _ (by decide) (by decide)).mono ?_; rintro e w6 ⟨rfl, rfl⟩
  rw [show (varB 9 18446744073709551615).length = 10 by decide +kernel]
  go_wp2_with fail
  refine (vshort_any [0] _ (by decide)).mono ?_; rintro e w7 ⟨rfl, hb7⟩
  rw [show shortB [0] = true by decide +kernel]
  go_wp2_with fail
  refine (vshort_any [128, 0] _ (by decide)).mono ?_; rintro e w8 ⟨rfl, hb8⟩
  rw [show shortB [128, 0] = false by decide +kernel]
  go_wp2
  go_ret
  exact ⟨rfl, B4.out.trans ((ext_trans (ext_trans (ext_trans (ext_alloc w4 _) hb5) hb7) hb8).mono B4.out.size)⟩
end Go.Proofs.Ytlibnfkehcpdkaa
