/-
  The laws of chapter 44: what they do first (works).
-/
import Derived.Test.YtgfdmdikiickpaaDoorStateF
import Derived.Test.YtgfdmdikiickpaaDoorStateG
import Derived.Test.YtgfdmdikiickpaaDoorStateH
import Derived.Test.YtgfdmdikiickpaaDoorStateI
import Derived.Test.YtgfdmdikiickpaaDoorStateJ
namespace Go.Proofs.YtgfdmdikiickpaaDoor
open Go.RowKit

def sL0 : List Mb := [([97], [49]), ([98, 64, 99], [120, 32, 121])]
def sL1 : List Mb := [([98, 64, 99], [122]), ([97], [49])]
theorem sreadA (w : World) : Calls Tryd.prog 20 #[Sv [97, 61, 49, 32, 44, 32, 44, 98, 64, 99, 61, 120, 32, 121]] w fun e w' => ∃ v, e = .returned (.tuple #[v, .int .i64 0]) ∧ OwnM w' w.heap.size 92 v sL0 ∧ Below w.heap.size w w' := by
  have h := sread_any [97, 61, 49, 32, 44, 32, 44, 98, 64, 99, 61, 120, 32, 121] w (by decide)
  rw [show readS [97, 61, 49, 32, 44, 32, 44, 98, 64, 99, 61, 120, 32, 121] = (sL0, 0) by decide +kernel] at h
  exact h
theorem sreadB (w : World) : Calls Tryd.prog 20 #[Sv [97, 61, 49, 44, 97, 61, 50]] w fun e w' => ∃ v, e = .returned (.tuple #[v, .int .i64 8]) ∧ Below w.heap.size w w' := by
  have h := sread_any [97, 61, 49, 44, 97, 61, 50] w (by decide)
  rw [show readS [97, 61, 49, 44, 97, 61, 50] = ([], 8) by decide +kernel] at h
  exact h.mono fun e w' ⟨v, he, _, hb⟩ => ⟨v, he, hb⟩
theorem sreadC (w : World) : Calls Tryd.prog 20 #[Sv [65, 61, 49]] w fun e w' => ∃ v, e = .returned (.tuple #[v, .int .i64 3]) ∧ Below w.heap.size w w' := by
  have h := sread_any [65, 61, 49] w (by decide)
  rw [show readS [65, 61, 49] = ([], 3) by decide +kernel] at h
  exact h.mono fun e w' ⟨v, he, _, hb⟩ => ⟨v, he, hb⟩
theorem sputA (A : Option Addr) (cap : Nat) (w : World) (h : Mbs w w.heap.size A sL0) : Calls Tryd.prog 31 #[.slice A 2 cap, Sv [98, 64, 99], Sv [122]] w fun e w' => ∃ v, e = .returned (.tuple #[v, .int .i64 0]) ∧ OwnM w' w.heap.size 92 v sL1 ∧ Below w.heap.size w w' := by
  have h := sput_any A cap sL0 [98, 64, 99] [122] w h (by decide) (by decide) (by decide)
  rw [show putS sL0 [98, 64, 99] [122] = (sL1, 0) by decide +kernel] at h
  exact h
theorem sgetA (A : Option Addr) (cap : Nat) (w : World) (h : Mbs w w.heap.size A sL1) : Calls Tryd.prog 33 #[.slice A 2 cap, Sv [98, 64, 99]] w fun e w' => e = .returned (.tuple #[Sv [122], .bool true]) ∧ Below w.heap.size w w' := by
  have h := sget_any A cap sL1 [98, 64, 99] w h (by decide)
  rw [show getM sL1 [98, 64, 99] = [122] by decide +kernel, show hasM sL1 [98, 64, 99] = true by decide +kernel] at h
  exact h
theorem stextA (A : Option Addr) (cap : Nat) (w : World) (h : Mbs w w.heap.size A sL1) : Calls Tryd.prog 28 #[.slice A 2 cap] w fun e w' => e = .returned (Sv [98, 64, 99, 61, 122, 44, 97, 61, 49]) ∧ Below w.heap.size w w' := by
  have h := stext_any A cap sL1 w h (by decide) (by decide)
  rw [show textS sL1 = [98, 64, 99, 61, 122, 44, 97, 61, 49] by decide +kernel] at h
  exact h
theorem skeyA (w : World) : Calls Tryd.prog 24 #[Sv [97]] w fun e w' => e = .returned (.bool true) ∧ Below w.heap.size w w' := by
  have h := skey_any [97] w (by decide)
  rw [show keyB [97] = true by decide +kernel] at h
  exact h
theorem svalA (w : World) : Calls Tryd.prog 26 #[Sv []] w fun e w' => e = .returned (.bool false) ∧ Below w.heap.size w w' := by
  have h := svalue_any [] w (by decide)
  rw [show valB [] = false by decide +kernel] at h
  exact h
set_option maxRecDepth 100000 in
set_option maxHeartbeats 4000000 in
theorem sworks_any (w : World) : Calls Tryd.prog 19 #[] w fun e w' => e = .returned (.bool true) ∧ Below w.heap.size w w' := by
  go_enter Tryd.func19, Tryd.ntmps19
  go_upto_region 2 with (go_at_call 20; refine (sreadA _).mono ?_; rintro e w1 ⟨v1, rfl, ho1, hb1⟩; have HO1 := hid ho1; have HB1 := hid hb1; clear ho1 hb1)
  obtain ⟨A1, c1, hv1⟩ : ∃ A c, v1 = .slice A 2 c := HO1.out.len
  subst hv1
  go_upto_region 3 with (go_at_call 20; refine (sreadB _).mono ?_; rintro e w2 ⟨v2, rfl, hb2⟩; have HR2 := hid hb2; clear hb2)
  go_upto_region 4 with (go_at_call 20; refine (sreadC _).mono ?_; rintro e w3 ⟨v3, rfl, hb3⟩; have HR3 := hid (ext_trans HR2.out hb3); clear hb3)
  have HM1 := hid (HO1.out.mbs_)
  go_upto_region 7 with (go_at_call 31; refine (sputA _ _ _ (HM1.out.ext HR3.out)).mono ?_; rintro e w4 ⟨v4, rfl, ho4, hb4⟩; have HO4 := hid ho4; have HR4 := hid (ext_trans HR3.out hb4); clear ho4 hb4)
  obtain ⟨A4, c4, hv4⟩ : ∃ A c, v4 = .slice A 2 c := HO4.out.len
  subst hv4
  have HM4 := hid (HO4.out.mbs_)
  go_upto_region 8 with (go_at_call 33; refine (sgetA _ _ _ HM4.out).mono ?_; rintro e w5 ⟨rfl, hb5⟩; have HR5 := hid hb5; have HR5' := hid (ext_trans HR4.out hb5); clear hb5)
  obtain ⟨ad, hA, p0, p1⟩ := (HM1.out.ext HR5'.out).at_ (k := 1) (m := ([98, 64, 99], [120, 32, 121])) rfl
  subst hA
  have p0' : w5.cell? ⟨ad.block, ad.off + 2, none⟩ = some (Sv [98, 64, 99]) := p0
  have p1' : w5.cell? ⟨ad.block, ad.off + 2 + 1, none⟩ = some (Sv [120, 32, 121]) := p1
  have p1'' : w5.cell? ⟨ad.block, ad.off + 3, none⟩ = some (Sv [120, 32, 121]) := p1
  clear p0 p1
  go_wp2_with (first
    | (go_at_call 28; refine (stextA _ _ _ (HM4.out.ext HR5.out)).mono ?_; rintro e w6 ⟨rfl, hb6⟩; have HR6 := hid (ext_trans HR5'.out hb6); clear hb6)
    | (go_at_call 24; refine (skeyA _).mono ?_; rintro e w7 ⟨rfl, hb7⟩; have HR7 := hid (ext_trans HR6.out hb7); clear hb7)
    | (go_at_call 26; refine (svalA _).mono ?_; rintro e w8 ⟨rfl, hb8⟩; have HR8 := hid (ext_trans HR7.out hb8); clear hb8))
  go_ret
  exact ⟨rfl, ext_trans HB1.out HR8.out⟩
end Go.Proofs.YtgfdmdikiickpaaDoor
