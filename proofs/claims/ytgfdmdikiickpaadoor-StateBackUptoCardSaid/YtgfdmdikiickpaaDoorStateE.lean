/-
  Walks of package state: the place of a key, its value.
-/
import Derived.Test.YtgfdmdikiickpaaDoorMembs
namespace Go.Proofs.YtgfdmdikiickpaaDoor
open Go.RowKit

set_option maxRecDepth 100000 in
theorem hasc_any (m : Mb) (key : List UInt8) (p : Addr) (w : World) (hp : w.cell? p = some (Sv key)) (hlt : p.block < w.heap.size) :
    Calls Tryd.prog 90 #[.agg #[Sv m.1, Sv m.2], .pointer (some p)] w fun e w' => e = .returned (.bool (m.1 == key)) ∧ Below w.heap.size w w' := by
  have c1 : (w.alloc (.cells #[Sv m.1, Sv m.2] 92)).cell? ⟨w.heap.size, 0, none⟩ = some (Sv m.1) := (Blk.new w 92 #[Sv m.1, Sv m.2]).cell 0
  have c2 : (w.alloc (.cells #[Sv m.1, Sv m.2] 92)).cell? p = some (Sv key) := (Below.cell (ext_alloc w _) hlt).trans hp
  go_enter Tryd.func90, Tryd.ntmps90
  go_wp2_with fail
  go_ret
  exact ⟨rfl, ext_alloc w _⟩
def IdxRel (w : World) (L : List Mb) (key : List UInt8) (i : Value) (wr : World) : Prop := ∃ k : Nat, i = .int .i64 (k : Int) ∧ k ≤ L.length ∧ Hid (hasM (L.take k) key = false) ∧ Hid (Below w.heap.size w wr)
set_option maxRecDepth 100000 in
set_option maxHeartbeats 1000000 in
theorem idxfunc_any (A : Option Addr) (cap : Nat) (L : List Mb) (key : List UInt8) (p : Addr) (w : World) (h : Mbs w w.heap.size A L) (hl : L.length ≤ 1000000) (hp : w.cell? p = some (Sv key)) (hlt : p.block < w.heap.size) :
    Calls Tryd.prog 89 #[.slice A L.length cap, .func (.func 90) #[] #[.pointer (some p)]] w fun e w' => e = .returned (.int .i64 (idxM L key)) ∧ Below w.heap.size w w' := by
  have HO := hid h
  have HP := hid hp
  clear h hp
  go_enter Tryd.func89, Tryd.ntmps89
  go_wp2_with fail
  go_loopw [8] (fun i wr => IdxRel w L key i wr) (fun i _ => L.length - (intOf i).toNat)
  case atStart => exact ⟨0, rfl, Nat.zero_le _, hid rfl, hid (Below.refl _ _)⟩
  case round =>
    obtain ⟨k, rfl, hk, HN, HB⟩ := hrel
    by_cases hlk : k < L.length
    · obtain ⟨m, hm⟩ := get_lt hlk
      obtain ⟨ad, hA, p0, p1⟩ := (HO.out.below HB.out).at_ hm
      have HM := hid hm
      clear hm
      subst hA
      have qi : (0 : Int) ≤ (k : Int) ∧ (k : Int) < (L.length : Int) := by omega
      have hcall := hasc_any m key p wr ((HB.out.cell hlt).trans HP.out) (Nat.lt_of_lt_of_le hlt HB.out.size)
      obtain ⟨b, hb⟩ : ∃ b, (m.1 == key) = b := ⟨_, rfl⟩
      rw [hb] at hcall
      have HBB := hid hb
      clear hb
      cases b with
      | true =>
        have HR := hid (idxM_hit HM.out HBB.out HN.out).1
        go_wp2_with fail
        refine hcall.mono ?_; rintro e w2 ⟨rfl, hb2⟩
        have HB2 := hid (HB.out.trans (hb2.mono HB.out.size))
        clear hb2 hcall
        go_wp2_with fail
        go_ret
        exact ⟨by rw [HR.out]; rfl, HB2.out⟩
      | false =>
        have HN2 := hid (show hasM (L.take (k + 1)) key = false by rw [take_snoc_at HM.out, hasM_snoc, HN.out, HBB.out]; rfl)
        go_wp2_with fail
        refine hcall.mono ?_; rintro e w2 ⟨rfl, hb2⟩
        have HB2 := hid (HB.out.trans (hb2.mono HB.out.size))
        clear hb2 hcall
        go_wp2_with fail
        refine ⟨⟨k + 1, by go_num, hlk, HN2, HB2⟩, by simp [intOf] <;> omega⟩
    · obtain rfl : k = L.length := by omega
      have HR := hid (idxM_miss (L := L) (key := key) (by have := HN.out; rwa [List.take_length] at this)).1
      go_wp2_with fail
      go_ret
      exact ⟨by rw [HR.out]; rfl, HB.out⟩
set_option maxRecDepth 100000 in
theorem has_any (A : Option Addr) (cap : Nat) (L : List Mb) (key : List UInt8) (w : World) (h : Mbs w w.heap.size A L) (hl : L.length ≤ 1000000) :
    Calls Tryd.prog 58 #[.slice A L.length cap, Sv key] w fun e w' => e = .returned (.int .i64 (idxM L key)) ∧ Below w.heap.size w w' := by
  have hcon := idxfunc_any A cap L key ⟨w.heap.size, 0, none⟩ (w.alloc (.cells #[Sv key] 9)) (h.ext (ext_alloc w _)) hl ((Blk.new w 9 #[Sv key]).cell 0) (by simp)
  generalize idxM L key = r at hcon ⊢
  clear h
  go_enter Tryd.func58, Tryd.ntmps58
  go_wp2_with fail
  refine hcon.mono ?_; rintro e w2 ⟨rfl, hb2⟩
  have HB := hid (ext_trans (ext_alloc w _) hb2)
  clear hb2 hcon
  go_wp2_with fail
  go_ret
  exact ⟨rfl, HB.out⟩
set_option maxRecDepth 100000 in
theorem sget_any (A : Option Addr) (cap : Nat) (L : List Mb) (key : List UInt8) (w : World) (h : Mbs w w.heap.size A L) (hl : L.length ≤ 1000000) :
    Calls Tryd.prog 33 #[.slice A L.length cap, Sv key] w fun e w' => e = .returned (.tuple #[Sv (getM L key), .bool (hasM L key)]) ∧ Below w.heap.size w w' := by
  have hcon := has_any A cap L key w h hl
  have HO := hid h
  clear h
  by_cases hh : hasM L key = true
  · obtain ⟨k, m, hm, hi, hg⟩ := hasM_at L key hh
    rw [hi] at hcon
    have HG := hid hg
    have HH := hid hh
    have hkl : k < L.length := by
      rcases Nat.lt_or_ge k L.length with q | q
      · exact q
      · rw [List.getElem?_eq_none q] at hm; cases hm
    have qi : (0 : Int) ≤ (k : Int) ∧ (k : Int) < (L.length : Int) := by omega
    have HM := hid hm
    clear hi hg hh hm
    go_enter Tryd.func33, Tryd.ntmps33
    go_wp2_with fail
    refine hcon.mono ?_; rintro e w2 ⟨rfl, hb2⟩
    obtain ⟨ad, hA, p0, p1⟩ := (HO.out.below hb2).at_ HM.out
    subst hA
    have HB := hid hb2
    clear hb2 hcon
    go_wp2_with fail
    go_ret2
    exact ⟨by rw [HG.out, HH.out]; rfl, HB.out⟩
  · have hh' : hasM L key = false := by simpa using hh
    obtain ⟨hi, hg⟩ := idxM_miss hh'
    rw [hi] at hcon
    have HG := hid hg
    have HH := hid hh'
    clear hi hg hh hh'
    go_enter Tryd.func33, Tryd.ntmps33
    go_wp2_with fail
    refine hcon.mono ?_; rintro e w2 ⟨rfl, hb2⟩
    have HB := hid hb2
    clear hb2 hcon
    go_wp2_with fail
    go_ret2
    exact ⟨by rw [HG.out, HH.out]; rfl, HB.out⟩
end Go.Proofs.YtgfdmdikiickpaaDoor
