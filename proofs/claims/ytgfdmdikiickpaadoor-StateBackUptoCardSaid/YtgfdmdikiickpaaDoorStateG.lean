/-
  Walks of the laws of package state: members of one type as members of the other.
-/
import Derived.Test.YtgfdmdikiickpaaDoorMembs
namespace Go.Proofs.YtgfdmdikiickpaaDoor
open Go.RowKit

theorem flatM_app (a b : List Mb) : flatM (a ++ b) = flatM a ++ flatM b := by simp [flatM]
def CopyRel (w : World) (T : TypeId) (L : List Mb) (v i : Value) (wr : World) : Prop := ∃ (v' : Value) (k : Nat), v' = v ∧ i = .int .i64 (k : Int) ∧ k ≤ L.length ∧ Hid (OwnM wr w.heap.size T v' (L.take k)) ∧ Hid (Below w.heap.size w wr)
set_option maxRecDepth 100000 in
set_option maxHeartbeats 1000000 in
theorem own44_any (A : Option Addr) (cap : Nat) (L : List Mb) (w : World) (h : Mbs w w.heap.size A L) (hl : L.length ≤ 100000) :
    Calls Tryd.prog 29 #[.slice A L.length cap] w fun e w' => ∃ v, e = .returned v ∧ OwnM w' w.heap.size 92 v L ∧ Below w.heap.size w w' := by
  have HO := hid h
  clear h
  go_enter Tryd.func29, Tryd.ntmps29
  go_wp2_with fail
  go_loopw [3, 4] (fun v i wr => CopyRel w 92 L v i wr) (fun _ i _ => L.length - (intOf i).toNat)
  case atStart => exact ⟨_, 0, rfl, rfl, Nat.zero_le _, OwnM.nil _ _ _, Below.refl _ _⟩
  case round =>
    obtain ⟨v', k, hv, rfl, hk, HW, HB⟩ := hrel
    subst hv
    by_cases hlt : k < L.length
    · obtain ⟨m, hm⟩ := get_lt hlt
      obtain ⟨ad, hA, p0, p1⟩ := (HO.out.below HB.out).at_ hm
      have HM := hid hm
      clear hm
      subst hA
      have qi : (0 : Int) ≤ (k : Int) ∧ (k : Int) < (L.length : Int) := by omega
      have hkl : (L.take k).length ≤ 1000000 := by rw [List.length_take]; omega
      have HO7 := hid (HW.out.ext (ext_alloc wr (.cells #[Sv m.1, Sv m.2] 92)))
      have HBK := hid (Blk.new wr 92 (mcs m))
      have HB7 := hid (HB.out.alloc HB.out.size (.cells #[Sv m.1, Sv m.2] 92))
      go_wp2_with (refine wpList_appM rfl _ _ _ _ Tryd.underlying43 info_sm rfl w.heap.size v' (L.take k) rfl HO7.out wr.heap.size 1 92 m rfl HBK.out hkl HB7.out.size ?_; intro v8 w8 hown8 hg8; have HO8 := hid hown8; have HB8 := hid (show Below w.heap.size w w8 from Below.grown HB7.out hg8 HB7.out.size (fun k hk => (World.ownsRow.lt HO7.out k hk).1)); clear hown8 hg8)
      refine ⟨⟨v8, k + 1, rfl, by go_num, hlt, hid ?_, HB8⟩, by simp [intOf] <;> omega⟩
      rw [take_snoc_at HM.out]; exact HO8.out
    · obtain rfl : k = L.length := by omega
      have HW := hid (show OwnM wr w.heap.size 92 v' L by have := HW.out; rwa [List.take_length] at this)
      go_wp2_with fail
      go_ret
      exact ⟨_, rfl, HW.out, HB.out⟩
set_option maxRecDepth 100000 in
set_option maxHeartbeats 1000000 in
theorem back44_any (A : Option Addr) (cap : Nat) (L : List Mb) (w : World) (h : Mbs w w.heap.size A L) (hl : L.length ≤ 100000) :
    Calls Tryd.prog 23 #[.slice A L.length cap] w fun e w' => ∃ v, e = .returned v ∧ OwnM w' w.heap.size 100 v L ∧ Below w.heap.size w w' := by
  have HO := hid h
  clear h
  go_enter Tryd.func23, Tryd.ntmps23
  go_wp2_with fail
  go_loopw [3, 4] (fun v i wr => CopyRel w 100 L v i wr) (fun _ i _ => L.length - (intOf i).toNat)
  case atStart => exact ⟨_, 0, rfl, rfl, Nat.zero_le _, OwnM.nil _ _ _, Below.refl _ _⟩
  case round =>
    obtain ⟨v', k, hv, rfl, hk, HW, HB⟩ := hrel
    subst hv
    by_cases hlt : k < L.length
    · obtain ⟨m, hm⟩ := get_lt hlt
      obtain ⟨ad, hA, p0, p1⟩ := (HO.out.below HB.out).at_ hm
      have HM := hid hm
      clear hm
      subst hA
      have qi : (0 : Int) ≤ (k : Int) ∧ (k : Int) < (L.length : Int) := by omega
      have hkl : (L.take k).length ≤ 1000000 := by rw [List.length_take]; omega
      have HO7 := hid (HW.out.ext (ext_alloc wr (.cells #[Sv m.1, Sv m.2] 100)))
      have HBK := hid (Blk.new wr 100 (mcs m))
      have HB7 := hid (HB.out.alloc HB.out.size (.cells #[Sv m.1, Sv m.2] 100))
      go_wp2_with (refine wpList_appM rfl _ _ _ _ Tryd.underlying46 info_rm rfl w.heap.size v' (L.take k) rfl HO7.out wr.heap.size 1 100 m rfl HBK.out hkl HB7.out.size ?_; intro v8 w8 hown8 hg8; have HO8 := hid hown8; have HB8 := hid (show Below w.heap.size w w8 from Below.grown HB7.out hg8 HB7.out.size (fun k hk => (World.ownsRow.lt HO7.out k hk).1)); clear hown8 hg8)
      refine ⟨⟨v8, k + 1, rfl, by go_num, hlt, hid ?_, HB8⟩, by simp [intOf] <;> omega⟩
      rw [take_snoc_at HM.out]; exact HO8.out
    · obtain rfl : k = L.length := by omega
      have HW := hid (show OwnM wr w.heap.size 100 v' L by have := HW.out; rwa [List.take_length] at this)
      go_wp2_with fail
      go_ret
      exact ⟨_, rfl, HW.out, HB.out⟩
end Go.Proofs.YtgfdmdikiickpaaDoor
