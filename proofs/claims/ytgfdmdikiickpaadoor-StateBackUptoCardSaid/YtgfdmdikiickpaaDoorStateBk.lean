/-
  The law StateBack.
-/
import Derived.Test.YtgfdmdikiickpaaDoorStatePt
namespace Go.Proofs.YtgfdmdikiickpaaDoor
open Go.RowKit

set_option maxRecDepth 100000 in
set_option maxHeartbeats 4000000 in
theorem stateBack_any (A : Option Addr) (cap : Nat) (L : List Mb) (s : List UInt8) (w : World) (h : Mbs w w.heap.size A L) (hsz : sizeM L ≤ 1000000000000) :
    Calls Tryd.prog 7 #[.slice A L.length cap, Sv s] w fun e w' => e = .returned (.bool true) ∧ Below w.heap.size w w' := by
  by_cases hl : 60 < L.length
  · have hl2 : (60 : Int) < (L.length : Int) := by omega
    go_enter Tryd.func7, Tryd.ntmps7
    go_wp2_with (go_at_call 19; refine (sworks_any _).mono ?_; rintro e w1 ⟨rfl, hb1⟩)
    go_ret
    exact ⟨rfl, hb1⟩
  by_cases hl2 : 2000 < s.length
  · have hl3 : (2000 : Int) < (s.length : Int) := by omega
    have hl4 : L.length ≤ 60 := by omega
    go_enter Tryd.func7, Tryd.ntmps7
    go_wp2_with (go_at_call 19; refine (sworks_any _).mono ?_; rintro e w1 ⟨rfl, hb1⟩)
    go_ret
    exact ⟨rfl, hb1⟩
  have hl3 : L.length ≤ 60 := by omega
  have hl4 : s.length ≤ 2000 := by omega
  clear hl hl2
  have HO := hid h
  clear h
  have h1 := fun u => sread_any s u (by omega)
  have HG := hid (readS_good (s := s))
  have HBD := hid (readS_bad (s := s))
  obtain ⟨M, c, hM⟩ : ∃ M c, readS s = (M, c) := ⟨(readS s).1, (readS s).2, rfl⟩
  rw [hM] at h1 HG HBD
  clear hM
  simp only at h1
  have ho := own44_any A cap L w HO.out (by omega)
  have htx := fun A' c' u (h : Mbs u u.heap.size A' L) => stext_any A' c' L u h (by omega) hsz
  have htr := fun u (h : Mbs u u.heap.size A L) => rtext44_any A cap L u h (by omega) (by omega)
  obtain ⟨T, hT⟩ : ∃ T, textS L = T := ⟨_, rfl⟩
  simp only [hT] at htx htr
  clear hT
  have HTX := hid htx
  have HTR := hid htr
  clear htx htr
  go_enter Tryd.func7, Tryd.ntmps7
  go_wp2_with fail
  refine ho.mono ?_; rintro e w1 ⟨v1, rfl, ho1, hb1⟩
  have HO1 := hid ho1
  have HB1 := hid hb1
  clear ho1 hb1 ho
  obtain ⟨A1, c1, hv1⟩ := HO1.out.len
  subst hv1
  go_wp2_with fail
  refine (HTX.out A1 c1 w1 HO1.out.mbs_).mono ?_; rintro e w2 ⟨rfl, hb2⟩
  have HR2 := hid (ext_trans HB1.out hb2)
  clear hb2
  go_wp2_with fail
  refine (HTR.out w2 (HO.out.ext HR2.out)).mono ?_; rintro e w3 ⟨rfl, hb3⟩
  have HR3 := hid (ext_trans HR2.out hb3)
  clear hb3 HTX HTR HO1
  go_wp2_with fail
  refine (h1 w3).mono ?_; rintro e w4 ⟨v4, rfl, ho4, hb4⟩
  have HO4 := hid ho4
  have HR4 := hid (ext_trans HR3.out hb4)
  clear ho4 hb4 h1
  by_cases hc : c = 0
  · subst hc
    have HGM := hid (HG.out rfl)
    have hml := HGM.out.len
    have hms := size_good HGM.out
    have HTB := hid (text_back HGM.out)
    have htl := textS_len M
    obtain ⟨A4, c4, hv4⟩ := HO4.out.len
    subst hv4
    have htx := stext_any A4 c4 M w4 HO4.out.mbs_ (by omega) (by omega)
    have hrd := fun u => sread_any (textS M) u (by omega)
    rw [HTB.out] at hrd
    simp only at hrd
    generalize textS M = TM at htx hrd htl
    clear HTB HG HBD
    go_wp2_with fail
    refine htx.mono ?_; rintro e w5 ⟨rfl, hb5⟩
    have HR5 := hid hb5
    clear hb5 htx
    go_wp2_with fail
    refine (hrd _).mono ?_; rintro e w6 ⟨v6, rfl, ho6, hb6⟩
    have HO6 := hid ho6
    have HR6 := hid (ext_trans HR5.out hb6)
    clear ho6 hb6 hrd
    obtain ⟨A6, c6, hv6⟩ := HO6.out.len
    subst hv6
    go_wp2_with fail
    refine (back44_any A6 c6 M _ HO6.out.mbs_ (by omega)).mono ?_; rintro e w7 ⟨v7, rfl, ho7, hb7⟩
    have HO7 := hid ho7
    have HR7 := hid (ext_trans HR6.out hb7)
    clear ho7 hb7
    obtain ⟨A7, c7, hv7⟩ := HO7.out.len
    subst hv7
    go_wp2_with fail
    refine (back44_any A4 c4 M _ (HO4.out.mbs_.ext HR7.out) (by omega)).mono ?_; rintro e w8 ⟨v8, rfl, ho8, hb8⟩
    have HO8 := hid ho8
    have HR8 := hid hb8
    have HR8' := hid (ext_trans HR7.out hb8)
    clear ho8 hb8
    obtain ⟨A8, c8, hv8⟩ := HO8.out.len
    subst hv8
    have hsm := rsame_any A7 A8 c7 c8 M M w8 (HO7.out.mbs_.ext HR8.out) HO8.out.mbs_ (by omega)
    rw [show decide (M = M) = true by simp] at hsm
    go_wp2_with fail
    refine hsm.mono ?_; rintro e w9 ⟨rfl, hb9⟩
    have HR9 := hid (ext_trans HR8'.out hb9)
    clear hb9 hsm
    go_wp2_with fail
    refine (sworks_any _).mono ?_; rintro e wa ⟨rfl, hba⟩
    have HRA := hid (ext_trans HR9.out hba)
    clear hba
    go_wp2_with fail
    go_ret
    exact ⟨rfl, ext_trans HR4.out HRA.out⟩
  · have hM0 : M = [] := HBD.out hc
    subst hM0
    have qc : (c == 0) = false := by rw [beq_eq_false_iff_ne]; exact hc
    have qc2 : (c != 0) = true := by rw [bne_iff_ne]; exact hc
    obtain ⟨A4, c4, hv4⟩ : ∃ A c, v4 = .slice A 0 c := HO4.out.len
    subst hv4
    clear HG HBD
    go_wp2_with fail
    refine (sworks_any _).mono ?_; rintro e wa ⟨rfl, hba⟩
    have HRA := hid (ext_trans HR4.out hba)
    clear hba
    go_wp2_with fail
    go_ret
    exact ⟨rfl, HRA.out⟩
end Go.Proofs.YtgfdmdikiickpaaDoor
