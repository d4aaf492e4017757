/-
  The law PtagBack.
-/
import Derived.Test.YtdjbgojdkaipfaaDoorPtagNone
import Derived.Deep.DeepCutAuto
import Derived.Deep.RegionWith
namespace Go.Proofs.YtdjbgojdkaipfaaDoor
open Go.RowKit

theorem tag_back (n wi : Int) (h : mayT n wi = true) : tagR (putT n wi) = (0, (putT n wi).length, n, wi) := by
  obtain ⟨n0, n1, g0, g1⟩ := mayT_bd h
  obtain ⟨r1, r2, r3⟩ := varB_read (8 * n + wi) [] (by omega) (by omega)
  rw [List.append_nil] at r1 r2 r3
  rw [putT, if_pos h, tagR, if_pos r2, r3, show (8 * n + wi) / 8 = n by omega, show (8 * n + wi) % 8 = wi by omega, if_pos h, r1]
theorem start_ahead (s : List UInt8) : (Cu.start s).ahead = s := by
  show (s.take s.length).drop 0 = s
  rw [List.take_length]; rfl
set_option maxRecDepth 100000 in
set_option maxHeartbeats 4000000 in
theorem ptagBack_any (p : List UInt8) (n wi : Int) (w : World) (hN : NoneIs w) (hp : p.length ≤ 140737488351232) (n0 : -9223372036854775808 ≤ n) (n1 : n ≤ 9223372036854775807) (i0 : -9223372036854775808 ≤ wi) (i1 : wi ≤ 9223372036854775807) :
    Calls Tryd.prog 4 #[Sv p, .int .i64 n, .int .i64 wi] w fun e w' => e = .returned (.bool true) ∧ Below w.heap.size w w' := by
  have lF : (putT n wi).length ≤ 10 := by
    unfold putT
    split
    · rename_i h
      obtain ⟨a0, a1, g0, g1⟩ := mayT_bd h
      exact varB_len_le 9 10 (8 * n + wi) (by omega) (by omega) (by omega)
    · simp
  have hback := tag_back n wi
  have hpos : mayT n wi = true → 0 < (putT n wi).length := fun h => by rw [putT, if_pos h]; exact varB_pos 9 _
  generalize hF : putT n wi = F at lF hback hpos
  have HF := hid hF
  have HBK := hid hback
  have HP := hid hpos
  clear hF hback hpos
  have sF : ¬ (9223372036854775807 < p.length + F.length) := by omega
  have eF : (p ++ F == p ++ F) = true := by simp
  have hT0 := Blk.new w 30 #[.int .i64 n, .int .i64 wi]
  have hN0 := hN.ext (ext_alloc w (.cells #[.int .i64 n, .int .i64 wi] 30))
  have hb0 := ext_alloc w (.cells #[.int .i64 n, .int .i64 wi] 30)
  have iM : (mayT n wi != mayT n wi) = false := by simp
  go_enter Tryd.func4, Tryd.ntmps4
  go_upto_region 2 with fail
  generalize w.alloc (.cells #[.int .i64 n, .int .i64 wi] 30) = wA at hT0 hN0 hb0 ⊢
  have hT1 := hid (Blk.below hT0 (tb_below wA p) (Blk.lt hT0))
  have hN1 := hid (hN0.ext (tb_below wA p))
  have hB1 := hid (hb0.trans ((tb_below wA p).mono hb0.size))
  clear hT0 hN0 hb0 hN
  obtain ⟨p0, p1, _, _⟩ := blk2 hT1.out
  go_wp2_with fail
  refine (tput_any _ p n wi _ (tb_bs wA p) (tv_some wA p) hp).mono ?_; rintro e w1 ⟨v1, rfl, hown1, hb1⟩
  rw [HF.out] at hown1
  have hts1 := run_to_string hown1.bs
  have hT2 := hid (Blk.below hT1.out hb1 (Blk.lt hT1.out))
  have hN2 := hid (hN1.out.ext hb1)
  have hB2 := hid (hB1.out.trans (hb1.mono hB1.out.size))
  clear hown1 hb1 p0 p1 hT1 hN1 hB1
  obtain ⟨p0, p1, _, _⟩ := blk2 hT2.out
  go_wp2_with fail
  refine (may_any n wi _).mono ?_; rintro e w2 ⟨rfl, hb2⟩
  have hT3 := hid (Blk.below hT2.out hb2 (Blk.lt hT2.out))
  have hN3 := hid (hN2.out.ext hb2)
  have hB3 := hid (hB2.out.trans (hb2.mono hB2.out.size))
  clear hb2 p0 p1 hT2 hN2 hB2 hts1
  obtain ⟨p0, p1, _, _⟩ := blk2 hT3.out
  go_wp2_with fail
  refine (rmay_any n wi _).mono ?_; rintro e w3 ⟨rfl, rfl⟩
  go_wp2_with fail
  refine (rttext_any n wi _).mono ?_; rintro e w4 ⟨rfl, hb4⟩
  rw [HF.out]
  have hT4 := hid (Blk.below hT3.out hb4 (Blk.lt hT3.out))
  have hN4 := hid (hN3.out.ext hb4)
  have hB4 := hid (hB3.out.trans (hb4.mono hB3.out.size))
  clear hb4 p0 p1 hT3 hN3 hB3
  obtain ⟨p0, p1, _, _⟩ := blk2 hT4.out
  go_wp2_with fail
  refine (tsize_any n wi _).mono ?_; rintro e w5 ⟨rfl, hb5⟩
  rw [HF.out]
  have hT5 := hid (Blk.below hT4.out hb5 (Blk.lt hT4.out))
  have hN5 := hid (hN4.out.ext hb5)
  have hB5 := hid (hB4.out.trans (hb5.mono hB4.out.size))
  clear hb5 p0 p1 hT4 hN4 hB4
  obtain ⟨p0, p1, _, _⟩ := blk2 hT5.out
  have hsub2 : ((p.length : Int) + (F.length : Int)) - (p.length : Int) = (F.length : Int) := by omega
  have hfl : ((F.length : Int) != (F.length : Int)) = false := by simp
  go_wp2_with fail
  refine (rmay_any n wi _).mono ?_; rintro e w6 ⟨rfl, rfl⟩
  cases hm : mayT n wi with
  | false =>
    have HM := hid hm
    clear hm
    go_wp2_with fail
    refine (tworks_any _ hN5.out).mono ?_; rintro e w10 ⟨rfl, hw10⟩
    go_wp2_with fail
    go_ret
    exact ⟨rfl, hB5.out.trans (hw10.mono hB5.out.size)⟩
  | true =>
    have HBK2 := hid (HBK.out hm)
    have hfp := HP.out hm
    have HM := hid hm
    have hdr : (p ++ F).drop p.length = F := by simp
    have hle : p.length ≤ p.length + F.length := by omega
    clear hm iM
    go_wp2_with fail
    refine (new_any F _ (by omega)).mono ?_; rintro e w7 ⟨b, rfl, hb7, hc7, hw7⟩
    have hT7 := hid (Blk.below hT5.out hw7 (Blk.lt hT5.out))
    have hN7 := hid (hN5.out.ext hw7)
    have hB7 := hid (hB5.out.trans (hw7.mono hB5.out.size))
    have HC7 := hid hc7
    have hbw : w.heap.size < b := Nat.lt_of_lt_of_le (Blk.lt hT5.out) hb7
    have f7 := hid (Cu.start_fit (s := F) (by omega))
    clear hc7 hw7 p0 p1 hT5 hN5 hB5 hb7
    obtain ⟨p0, p1, _, _⟩ := blk2 hT7.out
    go_wp2_with fail
    have hRead : Hid (∀ wx, NoneIs wx → CurAt wx b (Cu.start F) → Calls Tryd.prog 9 #[ptr b] wx fun e w' => e = .returned (.agg #[.int .i64 n, .int .i64 wi]) ∧ CurAt w' b ⟨F, F.length, F.length, 0⟩ ∧ wx.grownBy w' (some b)) := by
      intro wx hNx hCx
      refine (tag_any b _ _ hNx hCx f7.out).mono ?_; rintro e w8 ⟨c8, m8, i8, rfl, hv8, hq8, hg8, hc8, ho8⟩
      obtain ⟨q1, q2⟩ := hv8.good rfl
      obtain ⟨q3, q4⟩ := hg8 rfl
      rw [start_ahead, HBK2.out] at q1 q2 q3 q4
      rw [q2 rfl, show ({ Cu.start F with pos := (Cu.start F).pos + F.length } : Cu) = ⟨F, F.length, F.length, 0⟩ by simp [Cu.start]] at hc8
      rw [show m8 = n from q3, show i8 = wi from q4]
      exact ⟨rfl, hc8, ho8⟩
    have hE : (⟨F, F.length, F.length, 0⟩ : Cu).fin = 0 := by simp [Cu.fin]
    have HE := hid hE
    clear hE
    go_region_with (first
      | (go_at_call 9; refine (hRead.out _ (by first | exact hN7.out | exact hN7.out.ext (ext_drew _)) (by first | exact HC7.out | exact HC7.out.ext (ext_drew _))).mono ?_; rintro e w8 ⟨rfl, hc8, ho8⟩; have hT8 : Blk w8 w.heap.size 30 #[.int .i64 n, .int .i64 wi] := (by first | exact Blk.grown hT7.out ho8 (by intro e; injection e with e; omega) | exact Blk.grown (Blk.drew hT7.out) ho8 (by intro e; injection e with e; omega)); have hN8 : Hid (NoneIs w8) := (by first | exact NoneIs.grown hN7.out HC7.out ho8 | exact NoneIs.grown (hN7.out.ext (ext_drew _)) (HC7.out.ext (ext_drew _)) ho8); have hB8 : Hid (Below w.heap.size w w8) := (by first | exact below_only hB7.out ho8 hB7.out.size (Nat.le_of_lt hbw) | exact below_only (Below.drew hB7.out) ho8 hB7.out.size (Nat.le_of_lt hbw)); have hC8 := hid hc8; obtain ⟨r0, r1, _, _⟩ := blk2 hT8; clear hT8 ho8 hc8)
      | (go_at_call 18; refine (end_any b _ _ (by first | exact hC8.out | exact hC8.out.ext (ext_drew _)) ⟨Nat.le_refl _, Nat.le_refl _, by simp; omega⟩).mono ?_; rintro e w9 ⟨rfl, n9, rfl⟩; rw [HE.out])
      | (go_at_call 6; refine (tworks_any _ (by first | exact (hN8.out.ext (ext_drewN _ _)) | exact hN8.out.ext (ext_trans (ext_drewN _ _) (ext_drew _)) | exact hN8.out.ext (ext_trans (ext_drew _) (ext_drewN _ _)))).mono ?_; rintro e w10 ⟨rfl, hw10⟩))
    all_goals go_wp2_with fail
    all_goals go_ret
    all_goals first
      | exact ⟨rfl, hB8.out.trans ((ext_trans (ext_drewN _ _) hw10).mono hB8.out.size)⟩
      | exact ⟨rfl, hB8.out.trans ((ext_trans (ext_drewN _ _) (ext_trans (ext_drew _) hw10)).mono hB8.out.size)⟩
      | exact ⟨rfl, hB8.out.trans ((ext_trans (ext_drew _) (ext_trans (ext_drewN _ _) hw10)).mono hB8.out.size)⟩
end Go.Proofs.YtdjbgojdkaipfaaDoor
