/-
  Arrays of bytes: slices of them.
-/
import Derived.Test.YtdjbgojdkaipfaaPHexa
namespace Go.Proofs.Ytdjbgojdkaipfaa
open Go.RowKit

theorem size_u8 (w : World) : (sizeOf 5).run Try.prog w = .ok 1 w := by
  obtain ⟨i0, hi, hz0, hz1, hz2⟩ := info_parts info_u8
  simp [sizeOf, typeInfo, hi, hz1]
theorem arr_parts {t : TypeId} {n : Nat} (ht : Try.prog.underlying t = some (.array n 5)) : Try.prog.arrayLen t = n ∧ Try.prog.elem t = 5 := by
  simp [Program.arrayLen, Program.elem, ht]
theorem add_zero' (g j : Nat) : (⟨g, 0, none⟩ : Addr).add (j * 1) = ⟨g, j, none⟩ := by rw [Nat.mul_one]; exact add_zero_off g j
theorem run_slice_from_arr {t : TypeId} {n : Nat} (ht : Try.prog.underlying t = some (.array n 5)) (g j : Nat) (k : IntKind) (W : World) (hj : j ≤ n) :
    (Instr.sliceAt t (.pointer (some ⟨g, 0, none⟩)) (some (.int k (j : Int))) none none).run Try.prog W = .ok (.slice (some (if n = j then ⟨g, 0, none⟩ else ⟨g, j, none⟩)) (n - j) (n - j)) W := by
  obtain ⟨h1, h2⟩ := arr_parts ht
  rw [run_sliceAt_array_l W t ⟨g, 0, none⟩ (by rw [h1, h2]; exact ht) k (j : Int) (by omega) (by rw [h1]; omega), h1, h2, size_u8]
  show Result.ok (slicedAt ⟨g, 0, none⟩ (j : Int).toNat n n 1) W = _
  simp only [slicedAt, Int.toNat_natCast, add_zero']
theorem run_slice_all_arr {t : TypeId} {n : Nat} (ht : Try.prog.underlying t = some (.array n 5)) (g : Nat) (W : World) :
    (Instr.sliceAt t (.pointer (some ⟨g, 0, none⟩)) none none none).run Try.prog W = .ok (.slice (some ⟨g, 0, none⟩) n n) W := by
  obtain ⟨h1, h2⟩ := arr_parts ht
  rw [run_sliceAt_array_all W t ⟨g, 0, none⟩ (by rw [h1, h2]; exact ht), h1, h2, size_u8]
  simp only [slicedAt, Nat.zero_mul, Nat.sub_zero]
  have e : (⟨g, 0, none⟩ : Addr).add 0 = ⟨g, 0, none⟩ := add_zero_off g 0
  rw [e]; simp
end Go.Proofs.Ytdjbgojdkaipfaa
