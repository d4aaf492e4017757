/-
  The laws of chapter 21: works, CskipPasses.
-/
import Derived.Test.YtdjbgojdkaipfaaSkipRefD
import Derived.Test.YtdjbgojdkaipfaaStill
import Derived.Deep.DeepCutAuto
import Derived.Deep.RegionWith
namespace Go.Proofs.Ytdjbgojdkaipfaa
open Go.RowKit

theorem start_ahd (s : List UInt8) : (Cu.start s).ahead = s := by
  show (s.take s.length).drop 0 = s
  rw [List.take_length]; rfl
theorem RdF.from0 {R : List UInt8 → Int × Nat} {s : List UInt8} {c' : Cu} (h : RdF R (Cu.start s) c') : c'.code = (R s).1 ∧ ((R s).1 = 0 → c' = ⟨s, (R s).2, s.length, 0⟩) := by
  obtain ⟨a, b⟩ := h.good rfl
  rw [start_ahd] at a b
  refine ⟨a, fun hz => ?_⟩
  rw [b hz]
  simp [Cu.start]
theorem rd_same {R : List UInt8 → Int × Nat} {s : List UInt8} {c1 c2 : Cu} (h1 : RdF R (Cu.start s) c1) (h2 : RdF R (Cu.start s) c2) : c2.code = c1.code ∧ (c1.code = 0 → c1 = c2) := by
  obtain ⟨a1, b1⟩ := h1.from0
  obtain ⟨a2, b2⟩ := h2.from0
  exact ⟨by rw [a1, a2], fun hz => by rw [b1 (a1 ▸ hz), b2 (a1 ▸ hz)]⟩
set_option maxRecDepth 100000 in
set_option maxHeartbeats 4000000 in
theorem kworks_any (w : World) :
    Calls Try.prog 74 #[] w fun e w' => e = .returned (.bool true) ∧ Below w.heap.size w w' := by
  go_enter Try.func74, Try.ntmps74
  go_wp2_with fail
  refine (new_any [0, 120] _ (by decide)).mono ?_; rintro e w1 ⟨a, rfl, ha, hca1, hw1⟩
  go_wp2_with fail
  refine (new_any [33, 1, 2, 120] _ (by decide)).mono ?_; rintro e w2 ⟨b, rfl, hb, hcb2, hw2⟩
  go_wp2_with fail
  refine (new_any [3] _ (by decide)).mono ?_; rintro e w3 ⟨d, rfl, hd, hcd3, hw3⟩
  have hca3 := (hca1.ext hw2).ext hw3
  have hcb3 := hcb2.ext hw3
  have hab : a < b := Nat.lt_of_lt_of_le hca1.lt hb
  have hbd : b < d := Nat.lt_of_lt_of_le hcb2.lt hd
  have hB3 := hid (ext_trans hw1 (ext_trans hw2 hw3))
  have A3 := hid hca3
  have B3 := hid hcb3
  have D3 := hid hcd3
  clear hca1 hcb2 hw1 hw2 hw3 hca3 hcb3 hcd3 hb hd
  go_wp2_with fail
  refine (pValue_any a _ 12 0 _ A3.out (Cu.start_fit (by decide)) (by decide) (by decide) (by decide) (by decide)).mono ?_; rintro e w4 ⟨ca, rfl, hra, hc4, hg4⟩
  obtain ⟨x1, x2⟩ := hra.from0
  rw [show skipV (32 - (0 : Int)).toNat 12 [0, 120] = (0, 1) by decide +kernel] at x1 x2
  obtain rfl := x2 rfl
  have A4 := hid hc4
  have B4 := hid (B3.out.other hg4 (by omega))
  have D4 := hid (D3.out.other hg4 (by omega))
  have hB4 := hid (below_only hB3.out hg4 hB3.out.size ha)
  clear x1 x2 hra hc4 hg4 A3 B3 D3 hB3
  go_wp2_with fail
  refine (pValue_any b _ 9 0 _ B4.out (Cu.start_fit (by decide)) (by decide) (by decide) (by decide) (by decide)).mono ?_; rintro e w5 ⟨cb, rfl, hrb, hc5, hg5⟩
  obtain ⟨x1, x2⟩ := hrb.from0
  rw [show skipV (32 - (0 : Int)).toNat 9 [33, 1, 2, 120] = (0, 3) by decide +kernel] at x1 x2
  obtain rfl := x2 rfl
  have A5 := hid (A4.out.other hg5 (by omega))
  have B5 := hid hc5
  have D5 := hid (D4.out.other hg5 (by omega))
  have hB5 := hid (below_only hB4.out hg5 hB4.out.size (by omega))
  clear x1 x2 hrb hc5 hg5 A4 B4 D4 hB4
  go_wp2_with fail
  refine (pInner_any d _ 1 0 _ D5.out (Cu.start_fit (by decide)) (by decide) (by decide) (by decide) (by decide)).mono ?_; rintro e w6 ⟨cd, rfl, hrd, hc6, hg6⟩
  obtain ⟨x1, _⟩ := hrd.from0
  rw [show innerR (skipV (32 - (0 : Int)).toNat) 1 [3] = (3, 0) by decide +kernel] at x1
  have A6 := hid (A5.out.other hg6 (by omega))
  have B6 := hid (B5.out.other hg6 (by omega))
  have D6 := hid hc6
  have hB6 := hid (below_only hB5.out hg6 hB5.out.size (by omega))
  clear hrd hc6 hg6 A5 B5 D5 hB5
  go_wp2_with fail
  refine (new_any [0] _ (by decide)).mono ?_; rintro e w7 ⟨g, rfl, hg, hcg7, hw7⟩
  have A7 := hid (A6.out.ext hw7)
  have B7 := hid (B6.out.ext hw7)
  have D7 := hid (D6.out.ext hw7)
  have hdg : d < g := Nat.lt_of_lt_of_le D6.out.lt hg
  have hB7 := hid (hB6.out.trans (hw7.mono hB6.out.size))
  have G7 := hid hcg7
  clear hcg7 hw7 hg A6 B6 D6 hB6
  go_wp2_with fail
  refine (pValue_any g _ 12 32 _ G7.out (Cu.start_fit (by decide)) (by decide) (by decide) (by decide) (by decide)).mono ?_; rintro e w8 ⟨cg, rfl, hrg, hc8, hg8⟩
  obtain ⟨y1, _⟩ := hrg.from0
  rw [show skipV (32 - (32 : Int)).toNat 12 [0] = (33, 0) by decide +kernel] at y1
  have A8 := hid (A7.out.other hg8 (by omega))
  have B8 := hid (B7.out.other hg8 (by omega))
  have D8 := hid (D7.out.other hg8 (by omega))
  have G8 := hid hc8
  have hB8 := hid (below_only hB7.out hg8 hB7.out.size (by omega))
  clear hrg hc8 hg8 A7 B7 D7 G7 hB7
  go_wp2_with fail
  refine (left_any_r a _ _ 1 (by decide) A8.out ⟨by decide, by decide, by decide⟩).mono ?_; rintro e w9 ⟨rfl, n9, rfl⟩
  go_wp2_with fail
  refine (left_any_r b _ _ 1 (by decide) (B8.out.ext (ext_drewN _ n9)) ⟨by decide, by decide, by decide⟩).mono ?_; rintro e w9 ⟨rfl, m9, rfl⟩
  go_wp2_with fail
  refine (err_any a _ _ (A8.out.ext (ext_drewN _ (n9 + m9)))).mono ?_; rintro e w9 ⟨rfl, rfl⟩
  go_wp2_with fail
  refine (err_any b _ _ (B8.out.ext (ext_drewN _ (n9 + m9)))).mono ?_; rintro e w9 ⟨rfl, rfl⟩
  go_wp2_with fail
  refine (err_any d _ _ (D8.out.ext (ext_drewN _ (n9 + m9)))).mono ?_; rintro e w9 ⟨rfl, rfl⟩
  rw [x1]
  go_wp2_with fail
  refine (err_any g _ _ (G8.out.ext (ext_drewN _ (n9 + m9)))).mono ?_; rintro e w9 ⟨rfl, rfl⟩
  rw [y1]
  go_wp2_with fail
  go_ret
  exact ⟨rfl, below_drewN hB8.out _⟩
set_option maxRecDepth 100000 in
set_option maxHeartbeats 20000000 in
theorem cskipPasses_any (s : List UInt8) (kind deep : Int) (w : World) (hs : s.length ≤ 1125899906842624) (k0 : 0 ≤ kind) (k1 : kind ≤ 255) :
    Calls Try.prog 15 #[Sv s, .int .u8 kind, .int .i64 deep] w fun e w' => e = .returned (.bool true) ∧ Below w.heap.size w w' := by
  by_cases q45 : 300 < (s.length : Int)
  · go_enter Try.func15, Try.ntmps15
    go_wp2_with fail
    refine (kworks_any _).mono ?_; rintro e w10 ⟨rfl, hw10⟩
    go_wp2_with fail
    go_ret
    exact ⟨rfl, hw10⟩
  by_cases q19 : deep < 0
  · go_enter Try.func15, Try.ntmps15
    go_wp2_with fail
    refine (kworks_any _).mono ?_; rintro e w10 ⟨rfl, hw10⟩
    go_wp2_with fail
    go_ret
    exact ⟨rfl, hw10⟩
  by_cases q88 : 100 < deep
  · go_enter Try.func15, Try.ntmps15
    go_wp2_with fail
    refine (kworks_any _).mono ?_; rintro e w10 ⟨rfl, hw10⟩
    go_wp2_with fail
    go_ret
    exact ⟨rfl, hw10⟩
  have f1 := hid (Cu.start_fit hs)
  go_enter Try.func15, Try.ntmps15
  go_wp2_with fail
  refine (new_any s _ hs).mono ?_; rintro e w1 ⟨a, rfl, ha, hca1, hw1⟩
  go_wp2_with fail
  refine (new_any s _ hs).mono ?_; rintro e w2 ⟨b, rfl, hb, hcb2, hw2⟩
  have hab : a < b := Nat.lt_of_lt_of_le hca1.lt hb
  have A2 := hid (hca1.ext hw2)
  have B2 := hid hcb2
  have hB2 := hid (ext_trans hw1 hw2)
  clear hca1 hcb2 hw1 hw2 hb
  go_wp2_with fail
  refine (pValue_any a _ kind deep _ A2.out f1.out k0 k1 (by omega) (by omega)).mono ?_; rintro e w3 ⟨ca, rfl, hra, hc3, hg3⟩
  have A3 := hid hc3
  have B3 := hid (B2.out.other hg3 (by omega))
  have hB3 := hid (below_only hB2.out hg3 hB2.out.size ha)
  have RA := hid hra
  clear hra hc3 hg3 A2 B2 hB2
  go_wp2_with fail
  refine (pInner_any b _ kind deep _ B3.out f1.out k0 k1 (by omega) (by omega)).mono ?_; rintro e w4 ⟨cb, rfl, hrb, hc4, hg4⟩
  have A4 := hid (A3.out.other hg4 (by omega))
  have B4 := hid hc4
  have hB4 := hid (below_only hB3.out hg4 hB3.out.size (by omega))
  have RB := hid hrb
  clear hrb hc4 hg4 A3 B3 hB3
  go_wp2_with fail
  refine (rnew_any s _).mono ?_; rintro e w5 ⟨rfl, hw5⟩
  have A5 := hid (A4.out.ext hw5)
  have B5 := hid (B4.out.ext hw5)
  have hB5 := hid (hB4.out.trans (hw5.mono hB4.out.size))
  clear hw5 A4 B4 hB4
  unfold agg
  go_wp2_with fail
  refine (rvalue_any _ (Cu.start s) kind deep _ f1.out k0 k1 (by omega) (by omega) rfl).mono ?_; rintro e w6 ⟨cv, rfl, hrv, hw6⟩
  obtain ⟨hv1, hv2⟩ := rd_same RA.out hrv
  have A6 := hid (A5.out.ext hw6)
  have B6 := hid (B5.out.ext hw6)
  have hB6 := hid (hB5.out.trans (hw6.mono hB5.out.size))
  have HV := hid (And.intro hv1 hv2)
  clear hw6 A5 B5 hB5 hv1 hv2 hrv
  unfold agg
  go_wp2_with fail
  refine (rnew_any s _).mono ?_; rintro e w7 ⟨rfl, hw7⟩
  have A7 := hid (A6.out.ext hw7)
  have B7 := hid (B6.out.ext hw7)
  have hB7 := hid (hB6.out.trans (hw7.mono hB6.out.size))
  clear hw7 A6 B6 hB6
  unfold agg
  go_wp2_with fail
  refine (rinner_any _ (Cu.start s) kind deep _ f1.out k0 k1 (by omega) (by omega) rfl).mono ?_; rintro e w8 ⟨cw, rfl, hrw, hw8⟩
  obtain ⟨hv1, hv2⟩ := rd_same RB.out hrw
  have A8 := hid (A7.out.ext hw8)
  have B8 := hid (B7.out.ext hw8)
  have hB8 := hid (hB7.out.trans (hw8.mono hB7.out.size))
  have HW := hid (And.intro hv1 hv2)
  clear hw8 A7 B7 hB7 hv1 hv2 hrw
  obtain ⟨hX, hY, _, _, hb89⟩ := box2 (Below.refl ((w8.alloc (.cells #[Sv cv.s, .int .i64 cv.pos, .int .i64 cv.en, .int .i64 cv.code] 78)).alloc (.cells #[Sv cw.s, .int .i64 cw.pos, .int .i64 cw.en, .int .i64 cw.code] 78)).heap.size _)
  have A9 := hid (A8.out.ext hb89)
  have B9 := hid (B8.out.ext hb89)
  have hB9 := hid (hB8.out.trans (hb89.mono hB8.out.size))
  obtain ⟨p0, p1, p2, p3, _, _, _, _⟩ := blk4 hX
  obtain ⟨r0, r1, r2, r3, _, _, _, _⟩ := blk4 hY
  clear A8 B8 hB8 hX hY hb89
  unfold agg
  go_wp2_with fail
  go_cut [80] (fun c wx => c = .bool false ∧ Below w.heap.size w wx)
  case first =>
    by_cases zca : ca.code = 0
    · by_cases zcb : cb.code = 0
      · obtain rfl := HV.out.2 zca
        have cca : (ca.code == 0) = true := by simpa using zca
        obtain rfl := HW.out.2 zcb
        have ccb : (cb.code == 0) = true := by simpa using zcb
        clear zca zcb
        go_quiet ((first
          | (go_at_call_of 57 a; exact err_quiet a _ _ _ A9.out)
          | (go_at_call_of 57 b; exact err_quiet b _ _ _ B9.out)
          | (go_at_call_of 58 a; exact at_quiet a _ _ _ A9.out)
          | (go_at_call_of 58 b; exact at_quiet b _ _ _ B9.out)))
        go_wp2_with fail
        go_meet
        exact ⟨rfl, below_drewN hB9.out _⟩
      · obtain rfl := HV.out.2 zca
        have cca : (ca.code == 0) = true := by simpa using zca
        have ccb : (cb.code != cw.code) = false := by rw [HW.out.1]; simp
        have dcb : (cw.code == 0) = false := by rw [HW.out.1]; simpa using zcb
        clear zca zcb
        go_quiet ((first
          | (go_at_call_of 57 a; exact err_quiet a _ _ _ A9.out)
          | (go_at_call_of 57 b; exact err_quiet b _ _ _ B9.out)
          | (go_at_call_of 58 a; exact at_quiet a _ _ _ A9.out)
          | (go_at_call_of 58 b; exact at_quiet b _ _ _ B9.out)))
        go_wp2_with fail
        go_meet
        exact ⟨rfl, below_drewN hB9.out _⟩
    · by_cases zcb : cb.code = 0
      · have cca : (ca.code != cv.code) = false := by rw [HV.out.1]; simp
        have dca : (cv.code == 0) = false := by rw [HV.out.1]; simpa using zca
        obtain rfl := HW.out.2 zcb
        have ccb : (cb.code == 0) = true := by simpa using zcb
        clear zca zcb
        go_quiet ((first
          | (go_at_call_of 57 a; exact err_quiet a _ _ _ A9.out)
          | (go_at_call_of 57 b; exact err_quiet b _ _ _ B9.out)
          | (go_at_call_of 58 a; exact at_quiet a _ _ _ A9.out)
          | (go_at_call_of 58 b; exact at_quiet b _ _ _ B9.out)))
        go_wp2_with fail
        go_meet
        exact ⟨rfl, below_drewN hB9.out _⟩
      · have cca : (ca.code != cv.code) = false := by rw [HV.out.1]; simp
        have dca : (cv.code == 0) = false := by rw [HV.out.1]; simpa using zca
        have ccb : (cb.code != cw.code) = false := by rw [HW.out.1]; simp
        have dcb : (cw.code == 0) = false := by rw [HW.out.1]; simpa using zcb
        clear zca zcb
        go_quiet ((first
          | (go_at_call_of 57 a; exact err_quiet a _ _ _ A9.out)
          | (go_at_call_of 57 b; exact err_quiet b _ _ _ B9.out)
          | (go_at_call_of 58 a; exact at_quiet a _ _ _ A9.out)
          | (go_at_call_of 58 b; exact at_quiet b _ _ _ B9.out)))
        go_wp2_with fail
        go_meet
        exact ⟨rfl, below_drewN hB9.out _⟩
  case rest =>
    obtain ⟨rfl, hbc⟩ := hcut
    have HBC := hid hbc
    clear hbc p0 p1 p2 p3 r0 r1 r2 r3 A9 B9 hB9
    go_wp2_with fail
    refine (kworks_any _).mono ?_; rintro e w10 ⟨rfl, hw10⟩
    go_wp2_with fail
    go_ret
    exact ⟨rfl, HBC.out.trans (hw10.mono HBC.out.size)⟩
end Go.Proofs.Ytdjbgojdkaipfaa
