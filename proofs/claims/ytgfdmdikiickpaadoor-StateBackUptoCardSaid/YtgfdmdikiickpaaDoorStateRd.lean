/-
  The law StateReads.
-/
import Derived.Test.YtgfdmdikiickpaaDoorStateLaw
import Derived.Test.YtgfdmdikiickpaaDoorStateK
namespace Go.Proofs.YtgfdmdikiickpaaDoor
open Go.RowKit

set_option maxRecDepth 100000 in
set_option maxHeartbeats 4000000 in
theorem stateReads_any (s : List UInt8) (w : World) :
    Calls Tryd.prog 6 #[Sv s] w fun e w' => e = .returned (.bool true) ∧ Below w.heap.size w w' := by
  by_cases hl : 2000 < s.length
  · have hl2 : (2000 : Int) < (s.length : Int) := by omega
    go_enter Tryd.func6, Tryd.ntmps6
    go_wp2_with (go_at_call 19; refine (sworks_any _).mono ?_; rintro e w1 ⟨rfl, hb1⟩)
    go_ret
    exact ⟨rfl, hb1⟩
  · have hl2 : s.length ≤ 2000 := by omega
    have h1 := fun u => sread_any s u (by omega)
    have h2 := fun u => rread44_any s u (by omega)
    have h3 := fun u => skey_any s u (by omega)
    have h4 := fun u => rkey44_any s u (by omega)
    have h5 := fun u => svalue_any s u (by omega)
    have h6 := fun u => rvalue44_any s u (by omega)
    obtain ⟨L, c, hL, hlen⟩ : ∃ L c, readS s = (L, c) ∧ L.length ≤ 32 := by
      refine ⟨(readS s).1, (readS s).2, rfl, ?_⟩
      by_cases h0 : (readS s).2 = 0
      · exact (readS_good h0).len
      · rw [readS_bad h0]; simp
    rw [hL] at h1 h2
    clear hL hl
    generalize keyB s = K at h3 h4
    generalize valB s = V at h5 h6
    go_enter Tryd.func6, Tryd.ntmps6
    go_upto_region 4 with (go_at_call 20; refine (h1 _).mono ?_; rintro e w1 ⟨v1, rfl, ho1, hb1⟩; have HO1 := hid ho1; have HB1 := hid hb1; clear ho1 hb1)
    obtain ⟨A1, c1, hv1⟩ := HO1.out.len
    subst hv1
    go_upto_region 5 with (go_at_call 21; refine (h2 _).mono ?_; rintro e w2 ⟨v2, rfl, ho2, hb2⟩; have HO2 := hid ho2; have HR2 := hid hb2; clear ho2 hb2)
    obtain ⟨A2, c2, hv2⟩ := HO2.out.len
    subst hv2
    have HM1 := hid (HO1.out.mbs_)
    have HM2 := hid (HO2.out.mbs_)
    have hbk := back44_any A1 c1 L w2 (HM1.out.ext HR2.out) (by omega)
    go_wp2_with ((go_at_call 23; refine hbk.mono ?_; rintro e w3 ⟨v3, rfl, ho3, hb3⟩; have HO3 := hid ho3; have HR3 := hid hb3; clear ho3 hb3; obtain ⟨A3, c3, hv3⟩ := HO3.out.len; subst hv3))
    have hsm := rsame_any A3 A2 c3 c2 L L w3 (HO3.out.mbs_) (HM2.out.ext HR3.out) (by omega)
    rw [show decide (L = L) = true by simp] at hsm
    refine hsm.mono ?_; rintro e w4 ⟨rfl, hb4⟩
    have HR4 := hid (ext_trans HR2.out (ext_trans HR3.out hb4))
    clear hb4 hsm hbk
    go_wp2_with (first
      | (go_at_call 24; refine (h3 _).mono ?_; rintro e w5 ⟨rfl, hb5⟩; have HR5 := hid (ext_trans HR4.out hb5); clear hb5)
      | (go_at_call 25; refine (h4 _).mono ?_; rintro e w6 ⟨rfl, hb6⟩; have HR6 := hid (ext_trans HR5.out hb6); clear hb6)
      | (go_at_call 26; refine (h5 _).mono ?_; rintro e w7 ⟨rfl, hb7⟩; have HR7 := hid (ext_trans HR6.out hb7); clear hb7)
      | (go_at_call 27; refine (h6 _).mono ?_; rintro e w8 ⟨rfl, rfl⟩)
      | (go_at_call 19; refine (sworks_any _).mono ?_; rintro e w9 ⟨rfl, hb9⟩; have HR9 := hid (ext_trans HR7.out hb9); clear hb9))
    go_ret
    exact ⟨rfl, ext_trans HB1.out HR9.out⟩
end Go.Proofs.YtgfdmdikiickpaaDoor
