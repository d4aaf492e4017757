/-
  Arrays of bytes: slices of them.
-/
import Derived.Test.YtgfdmdikiickpaaDoorPHexa
namespace Go.Proofs.YtgfdmdikiickpaaDoor
open Go.RowKit

theorem size_u8 (w : World) : (sizeOf 5).run Tryd.prog w = .ok 1 w := by
  obtain ⟨i0, hi, hz0, hz1, hz2⟩ := info_parts info_u8
  simp [sizeOf, typeInfo, hi, hz1]
theorem arr_parts {t : TypeId} {n : Nat} (ht : Tryd.prog.underlying t = some (.array n 5)) : Tryd.prog.arrayLen t = n ∧ Tryd.prog.elem t = 5 := by
  simp [Program.arrayLen, Program.elem, ht]
theorem add_zero' (g j : Nat) : (⟨g, 0, none⟩ : Addr).add (j * 1) = ⟨g, j, none⟩ := by rw [Nat.mul_one]; exact add_zero_off g j
theorem run_slice_from_arr {t : TypeId} {n : Nat} (ht : Tryd.prog.underlying t = some (.array n 5)) (g j : Nat) (k : IntKind) (W : World) (hj : j ≤ n) :
    (Instr.sliceAt t (.pointer (some ⟨g, 0, none⟩)) (some (.int k (j : Int))) none none).run Tryd.prog W = .ok (.slice (some (if n = j then ⟨g, 0, none⟩ else ⟨g, j, none⟩)) (n - j) (n - j)) W := by
  obtain ⟨h1, h2⟩ := arr_parts ht
  rw [run_sliceAt_array_l W t ⟨g, 0, none⟩ (by rw [h1, h2]; exact ht) k (j : Int) (by omega) (by rw [h1]; omega), h1, h2, size_u8]
  show Result.ok (slicedAt ⟨g, 0, none⟩ (j : Int).toNat n n 1) W = _
  simp only [slicedAt, Int.toNat_natCast, add_zero']
theorem run_slice_all_arr {t : TypeId} {n : Nat} (ht : Tryd.prog.underlying t = some (.array n 5)) (g : Nat) (W : World) :
    (Instr.sliceAt t (.pointer (some ⟨g, 0, none⟩)) none none none).run Tryd.prog W = .ok (.slice (some ⟨g, 0, none⟩) n n) W := by
  obtain ⟨h1, h2⟩ := arr_parts ht
  rw [run_sliceAt_array_all W t ⟨g, 0, none⟩ (by rw [h1, h2]; exact ht), h1, h2, size_u8]
  simp only [slicedAt, Nat.zero_mul, Nat.sub_zero]
  have e : (⟨g, 0, none⟩ : Addr).add 0 = ⟨g, 0, none⟩ := add_zero_off g 0
  rw [e]; simp
theorem b8s_set (L : List UInt8) (j : Nat) (n : Int) (h0 : 0 ≤ n) (h1 : n ≤ 255) : (b8s L).toArray.setIfInBounds j (.int .u8 n) = (b8s (L.set j (bt n))).toArray := by
  rw [← b8_bt n h0 h1]
  simp [b8s, List.map_set]
theorem drop_set (L : List UInt8) (j : Nat) (b : UInt8) (h : j < L.length) : (L.set j b).drop j = b :: L.drop (j + 1) := by
  rw [List.drop_eq_getElem_cons (by simpa using h), List.getElem_set_self]
  rw [List.drop_set_of_lt (by omega)]
theorem blk_byte {w : World} {g j : Nat} {t : TypeId} {L : List UInt8} (h : Blk w g t (b8s L).toArray) (hj : j < L.length) : w.cell? ⟨g, j, none⟩ = some (.int .u8 (byteAt L j)) := by
  rw [h.cell j]
  simp [b8s, b8, byteAt, List.getD, hj]
theorem add_off (g i j : Nat) : (⟨g, i, none⟩ : Addr).add j = ⟨g, i + j, none⟩ := by
  unfold Addr.add; split <;> simp_all
theorem blk_from {w : World} {g j : Nat} {t : TypeId} {L : List UInt8} (h : Blk w g t (b8s L).toArray) : ∀ i u, (b8s (L.drop j))[i]? = some u → w.cell? ((⟨g, j, none⟩ : Addr).add i) = some u := by
  intro i u hu
  rw [add_off, h.cell (j + i), ← hu]
  simp [b8s]
end Go.Proofs.YtgfdmdikiickpaaDoor
