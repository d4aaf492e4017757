/-
  The law CheadBack.
-/
import Derived.Test.YtdjbgojdkaipfaaHeadLaws
import Derived.Test.YtdjbgojdkaipfaaHeadPutRef
import Derived.Test.YtdjbgojdkaipfaaPHeadB
import Derived.Test.YtdjbgojdkaipfaaStill
import Derived.Deep.DeepCutAuto
namespace Go.Proofs.Ytdjbgojdkaipfaa
open Go.RowKit

/-- The two arrays that came in, in the first two blocks of the call. -/
structure Ar (w wr : World) (n0 n1 n2 k0 k1 : Int) : Prop where
  a : Blk wr w.heap.size 86 #[.int .i64 n0, .int .i64 n1, .int .i64 n2]
  z : Blk wr (w.heap.size + 1) 87 #[.int .u8 k0, .int .u8 k1]
  bel : Below w.heap.size w wr
section
variable {w wr w' : World} {n0 n1 n2 k0 k1 : Int}
theorem Ar.ext (h : Ar w wr n0 n1 n2 k0 k1) (k : Below wr.heap.size wr w') : Ar w w' n0 n1 n2 k0 k1 :=
  ⟨Blk.below h.a k (Blk.lt h.a), Blk.below h.z k (Blk.lt h.z), h.bel.trans (k.mono h.bel.size)⟩
theorem Ar.cells (h : Ar w wr n0 n1 n2 k0 k1) :
    (wr.cell? ⟨w.heap.size, 0, none⟩ = some (.int .i64 n0) ∧ wr.cell? ⟨w.heap.size, 1, none⟩ = some (.int .i64 n1) ∧ wr.cell? ⟨w.heap.size, 2, none⟩ = some (.int .i64 n2)) ∧
    (wr.cell? ⟨w.heap.size + 1, 0, none⟩ = some (.int .u8 k0) ∧ wr.cell? ⟨w.heap.size + 1, 1, none⟩ = some (.int .u8 k1)) ∧
    wr.cells? 0 ⟨w.heap.size, 0, none⟩ 3 = wr.cells? 0 ⟨w.heap.size, 0, none⟩ 3 :=
  ⟨⟨h.a.cell 0, h.a.cell 1, h.a.cell 2⟩, ⟨h.z.cell 0, h.z.cell 1⟩, rfl⟩
theorem Ar.new (w : World) (n0 n1 n2 k0 k1 : Int) :
    Ar w ((w.alloc (.cells #[.int .i64 n0, .int .i64 n1, .int .i64 n2] 86)).alloc (.cells #[.int .u8 k0, .int .u8 k1] 87)) n0 n1 n2 k0 k1 := by
  obtain ⟨hA, hB, _, _, hbw⟩ := box2 (Below.refl ((w.alloc (.cells #[.int .i64 n0, .int .i64 n1, .int .i64 n2] 86)).alloc (.cells #[.int .u8 k0, .int .u8 k1] 87)).heap.size _)
  exact ⟨hA, hB, hbw⟩
end
theorem is_st (k : Int) (w : World) (h0 : 0 ≤ k) (h1 : k ≤ 255) : Calls Try.prog 65 #[.int .u8 k] w fun e w'' => e = .returned (.bool (isK k)) ∧ w'' = w :=
  (is_any k w h0 h1).mono fun _ _ h => ⟨h.1, h.2.symm⟩
theorem ris_st (k : Int) (w : World) (h0 : 0 ≤ k) (h1 : k ≤ 255) : Calls Try.prog 66 #[.int .u8 k] w fun e w'' => e = .returned (.bool (isK k)) ∧ w'' = w :=
  (ris_any k w h0 h1).mono fun _ _ h => ⟨h.1, h.2.symm⟩
theorem same_st (k j : Int) (w : World) : Calls Try.prog 67 #[.int .u8 k, .int .u8 j] w fun e w'' => e = .returned (.bool (sameB k j)) ∧ w'' = w :=
  (same_any k j w).mono fun _ _ h => ⟨h.1, h.2.symm⟩
theorem start_ahead (s : List UInt8) : (Cu.start s).ahead = s := by
  show (s.take s.length).drop 0 = s
  rw [List.take_length]; rfl
set_option maxRecDepth 100000 in
set_option maxHeartbeats 40000000 in
theorem cheadBack_any (p : List UInt8) (n0 n1 n2 k0 k1 : Int) (w : World) (hp : p.length ≤ 140737488351232) (a0 : -9223372036854775808 ≤ n0) (a1 : n0 ≤ 9223372036854775807)
    (x0 : 0 ≤ k0) (x1 : k0 ≤ 255) (y0 : 0 ≤ k1) (y1 : k1 ≤ 255) :
    Calls Try.prog 12 #[Sv p, .agg #[.int .i64 n0, .int .i64 n1, .int .i64 n2], .agg #[.int .u8 k0, .int .u8 k1]] w fun e w' => e = .returned (.bool true) ∧ Below w.heap.size w w' := by
  have hA0 := Ar.new w n0 n1 n2 k0 k1
  have lF := field_len n0 n1 k0
  have lL := list_len n2 k0
  have lM := map_len n2 k0 k1
  generalize hF : fieldB n0 n1 k0 = F at lF
  generalize hL : listB n2 k0 = L at lL
  generalize hM : mapB n2 k0 k1 = M at lM
  have HF := hid hF
  have HL := hid hL
  have HM := hid hM
  clear hF hL hM
  have sF : ¬ (9223372036854775807 < p.length + F.length) := by omega
  have sL : ¬ (9223372036854775807 < p.length + L.length) := by omega
  have sM : ¬ (9223372036854775807 < p.length + M.length) := by omega
  have eF : (p ++ F == p ++ F) = true := by simp
  have eL : (p ++ L == p ++ L) = true := by simp
  have eM : (p ++ M == p ++ M) = true := by simp
  go_enter Try.func12, Try.ntmps12
  go_upto_region 1 with fail
  generalize (w.alloc (.cells #[.int .i64 n0, .int .i64 n1, .int .i64 n2] 86)).alloc (.cells #[.int .u8 k0, .int .u8 k1] 87) = wA at hA0 ⊢
  have HA1 := hid (hA0.ext (tb_below wA p))
  obtain ⟨⟨c0, c1, c2⟩, ⟨d0, d1⟩, _⟩ := HA1.out.cells
  clear hA0
  go_wp2_with fail
  refine (putfield_any _ p n0 n1 k0 _ (tv_bsN wA p) x0 x1 hp).mono ?_; rintro e w1 ⟨v1, rfl, hown1, hb1⟩
  rw [HF.out] at hown1
  have hts1 := run_to_string hown1.bs
  have HA2 := hid ((HA1.out.ext hb1).ext (tb_below w1 p))
  clear hown1 hb1 c0 c1 c2 d0 d1 HA1
  obtain ⟨⟨c0, c1, c2⟩, ⟨d0, d1⟩, _⟩ := HA2.out.cells
  go_wp2_with fail
  refine (putlist_any _ p n2 k0 _ (tv_bsN w1 p) x0 x1 hp).mono ?_; rintro e w2 ⟨v2, rfl, hown2, hb2⟩
  rw [HL.out] at hown2
  have hts2 := run_to_string hown2.bs
  have HA3 := hid ((HA2.out.ext hb2).ext (tb_below w2 p))
  clear hown2 hb2 c0 c1 c2 d0 d1 HA2 hts1
  obtain ⟨⟨c0, c1, c2⟩, ⟨d0, d1⟩, _⟩ := HA3.out.cells
  go_wp2_with fail
  refine (putmap_any _ p n2 k0 k1 _ (tv_bsN w2 p) x0 x1 y0 y1 hp).mono ?_; rintro e w3 ⟨v3, rfl, hown3, hb3⟩
  rw [HM.out] at hown3
  have hts3 := run_to_string hown3.bs
  have HA4 := hid (HA3.out.ext hb3)
  clear hown3 hb3 c0 c1 c2 d0 d1 HA3 hts2
  obtain ⟨⟨c0, c1, c2⟩, ⟨d0, d1⟩, _⟩ := HA4.out.cells
  go_wp2_with fail
  refine (rputfield_any n0 n1 k0 _ x0 x1).mono ?_; rintro e w4 ⟨rfl, hb4⟩
  rw [HF.out]
  have HA5 := hid (HA4.out.ext hb4)
  clear hb4 c0 c1 c2 d0 d1 HA4 hts3
  obtain ⟨⟨c0, c1, c2⟩, ⟨d0, d1⟩, _⟩ := HA5.out.cells
  go_wp2_with fail
  refine (rputlist_any n2 k0 _ x0 x1).mono ?_; rintro e w5 ⟨rfl, hb5⟩
  rw [HL.out]
  have HA6 := hid (HA5.out.ext hb5)
  clear hb5 c0 c1 c2 d0 d1 HA5
  obtain ⟨⟨c0, c1, c2⟩, ⟨d0, d1⟩, _⟩ := HA6.out.cells
  go_wp2_with fail
  refine (rputmap_any n2 k0 k1 _ x0 x1 y0 y1).mono ?_; rintro e w6 ⟨rfl, hb6⟩
  rw [HM.out]
  have HA7 := hid (HA6.out.ext hb6)
  clear hb6 c0 c1 c2 d0 d1 HA6
  obtain ⟨⟨c0, c1, c2⟩, ⟨d0, d1⟩, _⟩ := HA7.out.cells
  go_wp2_with fail
  have HS := hid (same_ways k0 k1 x0 x1 y0 y1)
  go_cut [121] (fun c wx => c = .bool false ∧ Ar w wx n0 n1 n2 k0 k1)
  case first =>
    have iK : (isK k0 != isK k0) = false := by simp
    have hwr : IntKind.u8.wrap (k0 + k1) = (k0 + k1) % 256 := IntKind.wrap_u8 _
    by_cases e0 : k0 = k1
    · have q0 : (k0 == k1) = true := by simpa using e0
      have q1 : sameB k0 k1 = true := by rw [HS.out, q0]; rfl
      clear e0
      go_quiet ((first
        | (go_at_call 65; exact Calls.quiet_of_same (is_st k0 _ x0 x1))
        | (go_at_call 66; exact Calls.quiet_of_same (ris_st k0 _ x0 x1))
        | (go_at_call 67; exact Calls.quiet_of_same (same_st k0 k1 _))))
      go_wp2_with fail
      go_meet
      exact ⟨rfl, HA7.out.ext (ext_drewN _ _)⟩
    have q0 : (k0 == k1) = false := by simpa using e0
    by_cases e1 : (k0 + k1) % 256 = 3
    case neg =>
      have r1 : ((k0 + k1) % 256 == 3) = false := by simpa using e1
      have q1 : sameB k0 k1 = false := by rw [HS.out, q0, r1]; rfl
      clear e0 e1
      go_quiet ((first
        | (go_at_call 65; exact Calls.quiet_of_same (is_st k0 _ x0 x1))
        | (go_at_call 66; exact Calls.quiet_of_same (ris_st k0 _ x0 x1))
        | (go_at_call 67; exact Calls.quiet_of_same (same_st k0 k1 _))))
      go_wp2_with fail
      go_meet
      exact ⟨rfl, HA7.out.ext (ext_drewN _ _)⟩
    have r1 : ((k0 + k1) % 256 == 3) = true := by simpa using e1
    by_cases g1 : 0 < k0
    case neg =>
      have q1 : sameB k0 k1 = false := by rw [HS.out, q0, r1, decide_eq_false g1]; rfl
      clear e0 e1
      go_quiet ((first
        | (go_at_call 65; exact Calls.quiet_of_same (is_st k0 _ x0 x1))
        | (go_at_call 66; exact Calls.quiet_of_same (ris_st k0 _ x0 x1))
        | (go_at_call 67; exact Calls.quiet_of_same (same_st k0 k1 _))))
      go_wp2_with fail
      go_meet
      exact ⟨rfl, HA7.out.ext (ext_drewN _ _)⟩
    by_cases g2 : 0 < k1
    case neg =>
      have q1 : sameB k0 k1 = false := by rw [HS.out, q0, r1, decide_eq_true g1, decide_eq_false g2]; rfl
      clear e0 e1
      go_quiet ((first
        | (go_at_call 65; exact Calls.quiet_of_same (is_st k0 _ x0 x1))
        | (go_at_call 66; exact Calls.quiet_of_same (ris_st k0 _ x0 x1))
        | (go_at_call 67; exact Calls.quiet_of_same (same_st k0 k1 _))))
      go_wp2_with fail
      go_meet
      exact ⟨rfl, HA7.out.ext (ext_drewN _ _)⟩
    by_cases g3 : k0 < 3
    case neg =>
      have q1 : sameB k0 k1 = false := by rw [HS.out, q0, r1, decide_eq_true g1, decide_eq_true g2, decide_eq_false g3]; rfl
      clear e0 e1
      go_quiet ((first
        | (go_at_call 65; exact Calls.quiet_of_same (is_st k0 _ x0 x1))
        | (go_at_call 66; exact Calls.quiet_of_same (ris_st k0 _ x0 x1))
        | (go_at_call 67; exact Calls.quiet_of_same (same_st k0 k1 _))))
      go_wp2_with fail
      go_meet
      exact ⟨rfl, HA7.out.ext (ext_drewN _ _)⟩
    have q1 : sameB k0 k1 = true := by rw [HS.out, q0, r1, decide_eq_true g1, decide_eq_true g2, decide_eq_true g3]; rfl
    clear e0 e1
    go_quiet ((first
      | (go_at_call 65; exact Calls.quiet_of_same (is_st k0 _ x0 x1))
      | (go_at_call 66; exact Calls.quiet_of_same (ris_st k0 _ x0 x1))
      | (go_at_call 67; exact Calls.quiet_of_same (same_st k0 k1 _))))
    go_wp2_with fail
    go_meet
    exact ⟨rfl, HA7.out.ext (ext_drewN _ _)⟩
  case rest =>
    obtain ⟨rfl, hAc⟩ := hcut
    have HAC := hid hAc
    clear hAc HA7 c0 c1 c2 d0 d1 eF eL eM HS HM
    obtain ⟨⟨c0, c1, c2⟩, ⟨d0, d1⟩, _⟩ := HAC.out.cells
    have drF : (p ++ F).drop p.length = F := by simp
    have drL : (p ++ L).drop p.length = L := by simp
    by_cases hf : isK k0 = true ∧ inR n1 = true
    case neg =>
      have hz : F = [] := HF.out.symm.trans (field_none n0 n1 k0 hf)
      subst hz
      clear hf
      by_cases hl : isK k0 = true ∧ 0 ≤ n2 ∧ n2 ≤ 2147483647
      case neg =>
        have hz : L = [] := HL.out.symm.trans (list_none n2 k0 hl)
        subst hz
        clear hl
        go_wp2_with fail
        refine (hworks_any _).mono ?_; rintro e wz ⟨rfl, hwz⟩
        go_wp2_with fail
        go_ret
        exact ⟨rfl, HAC.out.bel.trans (hwz.mono HAC.out.bel.size)⟩
      obtain ⟨m0, m1, m2⟩ := hl
      have hpl := (list_some n2 k0 m0 m1 m2).1
      have HLB := hid (list_back n2 k0 m0 m1 m2)
      rw [HL.out] at hpl HLB
      clear m0
      go_wp2_with fail
      refine (new_any L _ (by omega)).mono ?_; rintro e wn ⟨g, rfl, hgn, hcn, hwn⟩
      have HAN := hid (HAC.out.ext hwn)
      have fn := Cu.start_fit (s := L) (by omega)
      clear c0 c1 c2 d0 d1
      obtain ⟨⟨c0, c1, c2⟩, ⟨d0, d1⟩, _⟩ := HAN.out.cells
      go_wp2_with fail
      refine (listhead_any g _ _ hcn fn).mono ?_; rintro e wm ⟨cm, im, km, rfl, hvm, hqm, hgm, hcm, hom⟩
      obtain ⟨t1, t2⟩ := hvm.good rfl
      obtain ⟨t3, t4⟩ := hgm rfl
      rw [start_ahead, HLB.out] at t1 t2 t3 t4
      obtain rfl := t2 rfl
      obtain rfl : im = n2 := t3
      obtain rfl : km = k0 := t4
      have HAM := hid (HAC.out.ext (below_only hwn hom hwn.size hgn))
      have i0 : (im != im) = false := by simp
      have i1 : (km != km) = false := by simp
      have hf0 : ({ Cu.start L with pos := (Cu.start L).pos + L.length } : Cu).fin = 0 := by simp [Cu.fin, Cu.start]
      have HF0 := hid hf0
      clear c0 c1 c2 d0 d1 t1 t2 hqm hgm hcn hom hwn hf0
      obtain ⟨⟨c0, c1, c2⟩, ⟨d0, d1⟩, _⟩ := HAM.out.cells
      go_wp2_with fail
      refine (end_any g _ _ hcm hvm.fit).mono ?_; rintro e wo ⟨rfl, no, rfl⟩
      rw [HF0.out]
      have HAO := hid (HAM.out.ext (ext_drewN _ no))
      go_wp2_with fail
      refine (hworks_any _).mono ?_; rintro e wz ⟨rfl, hwz⟩
      go_wp2_with fail
      go_ret
      exact ⟨rfl, HAO.out.bel.trans (hwz.mono HAO.out.bel.size)⟩
    obtain ⟨j0, j1⟩ := hf
    have hpf := (field_some n0 n1 k0 j0 j1).1
    have HFB := hid (field_back n0 n1 k0 j0 j1)
    rw [HF.out] at hpf HFB
    clear j0 j1
    by_cases b0 : n0 < -32768
    · clear HFB
      by_cases hl : isK k0 = true ∧ 0 ≤ n2 ∧ n2 ≤ 2147483647
      case neg =>
        have hz : L = [] := HL.out.symm.trans (list_none n2 k0 hl)
        subst hz
        clear hl
        go_wp2_with fail
        refine (hworks_any _).mono ?_; rintro e wz ⟨rfl, hwz⟩
        go_wp2_with fail
        go_ret
        exact ⟨rfl, HAC.out.bel.trans (hwz.mono HAC.out.bel.size)⟩
      obtain ⟨m0, m1, m2⟩ := hl
      have hpl := (list_some n2 k0 m0 m1 m2).1
      have HLB := hid (list_back n2 k0 m0 m1 m2)
      rw [HL.out] at hpl HLB
      clear m0
      go_wp2_with fail
      refine (new_any L _ (by omega)).mono ?_; rintro e wn ⟨g, rfl, hgn, hcn, hwn⟩
      have HAN := hid (HAC.out.ext hwn)
      have fn := Cu.start_fit (s := L) (by omega)
      clear c0 c1 c2 d0 d1
      obtain ⟨⟨c0, c1, c2⟩, ⟨d0, d1⟩, _⟩ := HAN.out.cells
      go_wp2_with fail
      refine (listhead_any g _ _ hcn fn).mono ?_; rintro e wm ⟨cm, im, km, rfl, hvm, hqm, hgm, hcm, hom⟩
      obtain ⟨t1, t2⟩ := hvm.good rfl
      obtain ⟨t3, t4⟩ := hgm rfl
      rw [start_ahead, HLB.out] at t1 t2 t3 t4
      obtain rfl := t2 rfl
      obtain rfl : im = n2 := t3
      obtain rfl : km = k0 := t4
      have HAM := hid (HAC.out.ext (below_only hwn hom hwn.size hgn))
      have i0 : (im != im) = false := by simp
      have i1 : (km != km) = false := by simp
      have hf0 : ({ Cu.start L with pos := (Cu.start L).pos + L.length } : Cu).fin = 0 := by simp [Cu.fin, Cu.start]
      have HF0 := hid hf0
      clear c0 c1 c2 d0 d1 t1 t2 hqm hgm hcn hom hwn hf0
      obtain ⟨⟨c0, c1, c2⟩, ⟨d0, d1⟩, _⟩ := HAM.out.cells
      go_wp2_with fail
      refine (end_any g _ _ hcm hvm.fit).mono ?_; rintro e wo ⟨rfl, no, rfl⟩
      rw [HF0.out]
      have HAO := hid (HAM.out.ext (ext_drewN _ no))
      go_wp2_with fail
      refine (hworks_any _).mono ?_; rintro e wz ⟨rfl, hwz⟩
      go_wp2_with fail
      go_ret
      exact ⟨rfl, HAO.out.bel.trans (hwz.mono HAO.out.bel.size)⟩
    by_cases b1 : 32767 < n0
    · clear HFB
      by_cases hl : isK k0 = true ∧ 0 ≤ n2 ∧ n2 ≤ 2147483647
      case neg =>
        have hz : L = [] := HL.out.symm.trans (list_none n2 k0 hl)
        subst hz
        clear hl
        go_wp2_with fail
        refine (hworks_any _).mono ?_; rintro e wz ⟨rfl, hwz⟩
        go_wp2_with fail
        go_ret
        exact ⟨rfl, HAC.out.bel.trans (hwz.mono HAC.out.bel.size)⟩
      obtain ⟨m0, m1, m2⟩ := hl
      have hpl := (list_some n2 k0 m0 m1 m2).1
      have HLB := hid (list_back n2 k0 m0 m1 m2)
      rw [HL.out] at hpl HLB
      clear m0
      go_wp2_with fail
      refine (new_any L _ (by omega)).mono ?_; rintro e wn ⟨g, rfl, hgn, hcn, hwn⟩
      have HAN := hid (HAC.out.ext hwn)
      have fn := Cu.start_fit (s := L) (by omega)
      clear c0 c1 c2 d0 d1
      obtain ⟨⟨c0, c1, c2⟩, ⟨d0, d1⟩, _⟩ := HAN.out.cells
      go_wp2_with fail
      refine (listhead_any g _ _ hcn fn).mono ?_; rintro e wm ⟨cm, im, km, rfl, hvm, hqm, hgm, hcm, hom⟩
      obtain ⟨t1, t2⟩ := hvm.good rfl
      obtain ⟨t3, t4⟩ := hgm rfl
      rw [start_ahead, HLB.out] at t1 t2 t3 t4
      obtain rfl := t2 rfl
      obtain rfl : im = n2 := t3
      obtain rfl : km = k0 := t4
      have HAM := hid (HAC.out.ext (below_only hwn hom hwn.size hgn))
      have i0 : (im != im) = false := by simp
      have i1 : (km != km) = false := by simp
      have hf0 : ({ Cu.start L with pos := (Cu.start L).pos + L.length } : Cu).fin = 0 := by simp [Cu.fin, Cu.start]
      have HF0 := hid hf0
      clear c0 c1 c2 d0 d1 t1 t2 hqm hgm hcn hom hwn hf0
      obtain ⟨⟨c0, c1, c2⟩, ⟨d0, d1⟩, _⟩ := HAM.out.cells
      go_wp2_with fail
      refine (end_any g _ _ hcm hvm.fit).mono ?_; rintro e wo ⟨rfl, no, rfl⟩
      rw [HF0.out]
      have HAO := hid (HAM.out.ext (ext_drewN _ no))
      go_wp2_with fail
      refine (hworks_any _).mono ?_; rintro e wz ⟨rfl, hwz⟩
      go_wp2_with fail
      go_ret
      exact ⟨rfl, HAO.out.bel.trans (hwz.mono HAO.out.bel.size)⟩
    go_wp2_with fail
    refine (new_any F _ (by omega)).mono ?_; rintro e w1 ⟨b, rfl, hb1, hc1, hw1⟩
    have HAD := hid (HAC.out.ext hw1)
    have f1 := Cu.start_fit (s := F) (by omega)
    clear c0 c1 c2 d0 d1
    obtain ⟨⟨c0, c1, c2⟩, ⟨d0, d1⟩, _⟩ := HAD.out.cells
    go_wp2_with fail
    refine (field_any b _ n0 _ hc1 f1 (by omega) (by omega)).mono ?_; rintro e w2 ⟨c', i2, k2, rfl, hv2, hq2, hg2, hc2, ho2⟩
    obtain ⟨t1, t2⟩ := hv2.good rfl
    obtain ⟨t3, t4⟩ := hg2 rfl
    rw [start_ahead, HFB.out] at t1 t2 t3 t4
    obtain rfl := t2 rfl
    obtain rfl : i2 = n1 := t3
    obtain rfl : k2 = k0 := t4
    have HAE := hid (HAC.out.ext (below_only hw1 ho2 hw1.size hb1))
    have i0 : (i2 != i2) = false := by simp
    have i1 : (k2 != k2) = false := by simp
    have hf0 : ({ Cu.start F with pos := (Cu.start F).pos + F.length } : Cu).fin = 0 := by simp [Cu.fin, Cu.start]
    have HF0 := hid hf0
    clear c0 c1 c2 d0 d1 t1 t2 hq2 hg2 hc1 ho2 hw1 hf0 HAC HAD
    obtain ⟨⟨c0, c1, c2⟩, ⟨d0, d1⟩, _⟩ := HAE.out.cells
    go_wp2_with fail
    refine (end_any b _ _ hc2 hv2.fit).mono ?_; rintro e w3 ⟨rfl, n3, rfl⟩
    rw [HF0.out]
    have HAG := hid (HAE.out.ext (ext_drewN _ n3))
    clear c0 c1 c2 d0 d1 hc2 hv2 HAE HF0
    obtain ⟨⟨c0, c1, c2⟩, ⟨d0, d1⟩, _⟩ := HAG.out.cells
    by_cases hl : isK k2 = true ∧ 0 ≤ n2 ∧ n2 ≤ 2147483647
    case neg =>
      have hz : L = [] := HL.out.symm.trans (list_none n2 k2 hl)
      subst hz
      clear hl
      go_wp2_with fail
      refine (hworks_any _).mono ?_; rintro e wz ⟨rfl, hwz⟩
      go_wp2_with fail
      go_ret
      exact ⟨rfl, HAG.out.bel.trans (hwz.mono HAG.out.bel.size)⟩
    obtain ⟨m0, m1, m2⟩ := hl
    have hpl := (list_some n2 k2 m0 m1 m2).1
    have HLB := hid (list_back n2 k2 m0 m1 m2)
    rw [HL.out] at hpl HLB
    clear m0
    go_wp2_with fail
    refine (new_any L _ (by omega)).mono ?_; rintro e wn ⟨g, rfl, hgn, hcn, hwn⟩
    have HAN := hid (HAG.out.ext hwn)
    have fn := Cu.start_fit (s := L) (by omega)
    clear c0 c1 c2 d0 d1
    obtain ⟨⟨c0, c1, c2⟩, ⟨d0, d1⟩, _⟩ := HAN.out.cells
    go_wp2_with fail
    refine (listhead_any g _ _ hcn fn).mono ?_; rintro e wm ⟨cm, im, km, rfl, hvm, hqm, hgm, hcm, hom⟩
    obtain ⟨t1, t2⟩ := hvm.good rfl
    obtain ⟨t3, t4⟩ := hgm rfl
    rw [start_ahead, HLB.out] at t1 t2 t3 t4
    obtain rfl := t2 rfl
    obtain rfl : im = n2 := t3
    obtain rfl : km = k2 := t4
    have HAM := hid (HAG.out.ext (below_only hwn hom hwn.size hgn))
    have i0 : (im != im) = false := by simp
    have i1 : (km != km) = false := by simp
    have hf0 : ({ Cu.start L with pos := (Cu.start L).pos + L.length } : Cu).fin = 0 := by simp [Cu.fin, Cu.start]
    have HF0 := hid hf0
    clear c0 c1 c2 d0 d1 t1 t2 hqm hgm hcn hom hwn hf0
    obtain ⟨⟨c0, c1, c2⟩, ⟨d0, d1⟩, _⟩ := HAM.out.cells
    go_wp2_with fail
    refine (end_any g _ _ hcm hvm.fit).mono ?_; rintro e wo ⟨rfl, no, rfl⟩
    rw [HF0.out]
    have HAO := hid (HAM.out.ext (ext_drewN _ no))
    go_wp2_with fail
    refine (hworks_any _).mono ?_; rintro e wz ⟨rfl, hwz⟩
    go_wp2_with fail
    go_ret
    exact ⟨rfl, HAO.out.bel.trans (hwz.mono HAO.out.bel.size)⟩
end Go.Proofs.Ytdjbgojdkaipfaa
