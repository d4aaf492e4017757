/-
  Names whose bytes are all 0, told by their numbers.
-/
import Derived.Test.YtgfdmdikiickpaaDoorIdentRef
namespace Go.Proofs.YtgfdmdikiickpaaDoor
open Go.RowKit

theorem valL_zero : ∀ l : List UInt8, valL l = 0 ↔ l = zb l.length
  | [] => by simp [valL, zb]
  | x :: l => by
    have hx := bi_lt x
    have hn := valL_nonneg l
    have ih := valL_zero l
    have e : zb (l.length + 1) = 0 :: zb l.length := rfl
    rw [List.length_cons, e, List.cons.injEq, ← ih]
    show bi x + 256 * valL l = 0 ↔ _
    constructor
    · intro h
      have h1 : bi x = 0 := by omega
      exact ⟨bi_inj (by rw [h1]; rfl), by omega⟩
    · rintro ⟨rfl, h2⟩
      rw [h2]; rfl
theorem valH_zero (l : List UInt8) : valH l = 0 ↔ l = zb l.length := by
  unfold valH
  rw [valL_zero, List.length_reverse]
  constructor
  · intro h
    have := congrArg List.reverse h
    rw [List.reverse_reverse] at this
    rw [this]; simp [zb]
  · intro h
    rw [h]; simp [zb]
theorem zb_add (m n : Nat) : zb (m + n) = zb m ++ zb n := by simp [zb, List.replicate_append_replicate]
theorem tr_zero (t : List UInt8) (ht : t.length = 16) : (t == zb 16) = (decide (valH (t.take 8) = 0) && decide (valH (t.drop 8) = 0)) := by
  rw [Bool.eq_iff_iff]
  simp only [beq_iff_eq, Bool.and_eq_true, decide_eq_true_eq, valH_zero]
  have l1 : (t.take 8).length = 8 := by simp [ht]
  have l2 : (t.drop 8).length = 8 := by simp [ht]
  rw [l1, l2]
  constructor
  · rintro rfl; exact ⟨rfl, rfl⟩
  · rintro ⟨h1, h2⟩
    rw [← List.take_append_drop 8 t, h1, h2]; rfl
theorem sp_zero (x : List UInt8) (hx : x.length = 8) : (x == zb 8) = decide (valH x = 0) := by
  rw [Bool.eq_iff_iff]
  simp only [beq_iff_eq, decide_eq_true_eq, valH_zero, hx]
end Go.Proofs.YtgfdmdikiickpaaDoor
