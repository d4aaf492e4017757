/-
  The laws of chapter 20: what works says.
-/
import Derived.Test.YtdjbgojdkaipfaaHeadT
import Derived.Test.YtdjbgojdkaipfaaHeadRefD
import Derived.Deep.Cut
namespace Go.Proofs.Ytdjbgojdkaipfaa
open Go.RowKit

set_option maxRecDepth 1000000 in
set_option maxHeartbeats 4000000 in
theorem hworks_any (w : World) :
    Calls Try.prog 52 #[] w fun e w' => e = .returned (.bool true) ∧ Below w.heap.size w w' := by
  have f0 := Cu.start_fit (s := [56, 8, 4, 0]) (by decide)
  go_enter Try.func52, Try.ntmps52
  go_wp2_with fail
  refine (new_any [56, 8, 4, 0] _ (by decide)).mono ?_; rintro e w1 ⟨b, rfl, hb1, hc1, hw1⟩
  go_wp2_with fail
  refine (field_any b _ 2 _ hc1 f0 (by decide) (by decide)).mono ?_; rintro e w2 ⟨c2, i2, k2, rfl, hr2, hq2, hv2, hc2, hg2⟩
  obtain ⟨hp2, e2⟩ := hr2.good rfl
  obtain ⟨rfl, rfl⟩ := hv2 rfl
  obtain rfl := e2 (by decide)
  rw [show fieldR 2 (Cu.start [56, 8, 4, 0]).ahead = (0, 1, 5, 8) by decide] at hc2 ⊢
  have F2 : (⟨[56, 8, 4, 0], 1, 4, 0⟩ : Cu).fit := ⟨by decide, by decide, by decide⟩
  have hc2 : CurAt w2 b ⟨[56, 8, 4, 0], 1, 4, 0⟩ := hc2
  have B2 := below_only hw1 hg2 hw1.size hb1
  clear e2 hp2 hq2 hr2 hv2 hc1 hg2 hw1
  simp only []
  go_wp2_with fail
  refine (field_any b _ 5 _ hc2 F2 (by decide) (by decide)).mono ?_; rintro e w3 ⟨c3, i3, k3, rfl, hr3, hq3, hv3, hc3, hg3⟩
  obtain ⟨hp3, e3⟩ := hr3.good rfl
  obtain ⟨rfl, rfl⟩ := hv3 rfl
  obtain rfl := e3 (by decide)
  rw [show fieldR 5 (⟨[56, 8, 4, 0], 1, 4, 0⟩ : Cu).ahead = (0, 2, 2, 8) by decide] at hc3 ⊢
  have F3 : (⟨[56, 8, 4, 0], 3, 4, 0⟩ : Cu).fit := ⟨by decide, by decide, by decide⟩
  have hc3 : CurAt w3 b ⟨[56, 8, 4, 0], 3, 4, 0⟩ := hc3
  have B3 := below_only B2 hg3 B2.size hb1
  clear e3 hp3 hq3 hr3 hv3 hc2 hg3 B2
  simp only []
  go_wp2_with fail
  refine (field_any b _ 2 _ hc3 F3 (by decide) (by decide)).mono ?_; rintro e w4 ⟨c4, i4, k4, rfl, hr4, hq4, hv4, hc4, hg4⟩
  obtain ⟨hp4, e4⟩ := hr4.good rfl
  obtain ⟨rfl, rfl⟩ := hv4 rfl
  obtain rfl := e4 (by decide)
  rw [show fieldR 2 (⟨[56, 8, 4, 0], 3, 4, 0⟩ : Cu).ahead = (0, 1, 0, 0) by decide] at hc4 ⊢
  have F4 : (⟨[56, 8, 4, 0], 4, 4, 0⟩ : Cu).fit := ⟨by decide, by decide, by decide⟩
  have hc4 : CurAt w4 b ⟨[56, 8, 4, 0], 4, 4, 0⟩ := hc4
  have B4 := below_only B3 hg4 B3.size hb1
  clear e4 hp4 hq4 hr4 hv4 hc3 hg4 B3
  simp only []
  clear f0 F2 F3
  go_wp2_with fail
  refine (end_any b _ _ hc4 F4).mono ?_; rintro e w5 ⟨rfl, n5, rfl⟩
  rw [show (⟨[56, 8, 4, 0], 4, 4, 0⟩ : Cu).fin = 0 by decide]
  have B5 := below_drewN B4 n5
  clear B4 hc4 F4
  generalize w4.drewN n5 = w5 at B5 ⊢
  go_wp2_with fail
  refine (putfield_any _ [112] 2 5 8 _ (bs_new w5 [112] #[.int .u8 112] (1, 2) 1 rfl rfl).toN (by decide) (by decide) (by decide)).mono ?_; rintro e w6 ⟨v6, rfl, hown6, hb6⟩
  rw [show [112] ++ fieldB 2 5 8 = [112, 56] by decide] at hown6
  have hts6 := run_to_string hown6.bs
  clear hown6
  go_wp2_with fail
  refine (putlist_any _ [] 3 12 _ (nil_bsN _ _) (by decide) (by decide) (by decide)).mono ?_; rintro e w7 ⟨v7, rfl, hown7, hb7⟩
  rw [show [] ++ listB 3 12 = [60] by decide] at hown7
  have hts7 := run_to_string hown7.bs
  clear hown7
  go_wp2_with fail
  refine (putmap_any _ [] 1 8 5 _ (nil_bsN _ _) (by decide) (by decide) (by decide) (by decide) (by decide)).mono ?_; rintro e w8 ⟨v8, rfl, hown8, hb8⟩
  rw [show [] ++ mapB 1 8 5 = [1, 133] by decide] at hown8
  have hts8 := run_to_string hown8.bs
  clear hown8
  go_wp2_with fail
  refine (same_any 1 2 _).mono ?_; rintro e w9 ⟨rfl, rfl⟩
  rw [show sameB 1 2 = true by decide]
  go_wp2_with fail
  refine (same_any 1 9 _).mono ?_; rintro e w9 ⟨rfl, rfl⟩
  rw [show sameB 1 9 = false by decide]
  go_wp2_with fail
  go_ret
  exact ⟨rfl, B5.trans ((ext_trans (ext_trans (ext_trans (ext_alloc w5 _) hb6) hb7) hb8).mono B5.size)⟩
end Go.Proofs.Ytdjbgojdkaipfaa
