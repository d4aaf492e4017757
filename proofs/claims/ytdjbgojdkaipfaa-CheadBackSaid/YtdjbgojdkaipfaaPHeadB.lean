/-
  What is laid as a head is read as that head.
-/
import Derived.Test.YtdjbgojdkaipfaaHeadPutM
import Derived.Test.YtdjbgojdkaipfaaHeadRefD
namespace Go.Proofs.Ytdjbgojdkaipfaa
open Go.RowKit

theorem field_back (last id k : Int) (hk : isK k = true) (hi : inR id = true) :
    fieldR last (fieldB last id k) = (0, (fieldB last id k).length, id, k) := by
  obtain ⟨q0, q1⟩ : 1 ≤ k ∧ k ≤ 12 := by simpa [isK] using hk
  obtain ⟨i0, i1⟩ : -32768 ≤ id ∧ id ≤ 32767 := of_decide_eq_true hi
  by_cases hc : -32768 ≤ last ∧ last < id ∧ id - last ≤ 15
  · have e : fieldB last id k = [bt ((id - last) * 16 + k)] := by rw [fieldB, if_pos ⟨hk, i0, i1⟩, if_pos hc]
    have hb : bi (bt ((id - last) * 16 + k)) = (id - last) * 16 + k := bi_bt _ (by omega) (by omega)
    rw [e]
    simp only [fieldR, hb]
    rw [if_neg (by omega), show ((id - last) * 16 + k) % 16 = k by omega, show ((id - last) * 16 + k) / 16 = id - last by omega, if_neg (by rw [hk]; simp), if_pos (by omega), show last + (id - last) = id by omega, if_pos hi]
    rfl
  · have e : fieldB last id k = bt k :: varB 9 (zigV id) := by rw [fieldB, if_pos ⟨hk, i0, i1⟩, if_neg hc]
    have hb : bi (bt k) = k := bi_bt _ (by omega) (by omega)
    obtain ⟨z0, z1⟩ := zigV_bd id (by omega) (by omega)
    obtain ⟨r1, r2, r3⟩ := varB_read (zigV id) [] z0 z1
    rw [List.append_nil] at r1 r2 r3
    rw [e]
    simp only [fieldR, hb]
    rw [if_neg (by omega), show k % 16 = k by omega, show k / 16 = 0 by omega, if_neg (by rw [hk]; simp), if_neg (by omega), if_pos r2, r3, zag_zig, if_pos hi, r1, List.length_cons, Nat.add_comm]
theorem list_back (n k : Int) (hk : isK k = true) (h0 : 0 ≤ n) (h1 : n ≤ 2147483647) : listR (listB n k) = (0, (listB n k).length, n, k) := by
  obtain ⟨q0, q1⟩ : 1 ≤ k ∧ k ≤ 12 := by simpa [isK] using hk
  by_cases n15 : n < 15
  · have e : listB n k = [bt (n * 16 + k)] := by rw [listB, if_pos ⟨hk, h0, h1⟩, if_pos n15]
    have hb : bi (bt (n * 16 + k)) = n * 16 + k := bi_bt _ (by omega) (by omega)
    rw [e]
    simp only [listR, hb]
    rw [show (n * 16 + k) % 16 = k by omega, show (n * 16 + k) / 16 = n by omega, if_neg (by rw [hk]; simp), if_neg (by omega)]
    rfl
  · have e : listB n k = bt (240 + k) :: varB 9 n := by rw [listB, if_pos ⟨hk, h0, h1⟩, if_neg n15]
    have hb : bi (bt (240 + k)) = 240 + k := bi_bt _ (by omega) (by omega)
    obtain ⟨r1, r2, r3⟩ := varB_read n [] h0 (by omega)
    rw [List.append_nil] at r1 r2 r3
    have hs : sizeR (varB 9 n) = (0, (varB 9 n).length, n) := by rw [sizeR, if_pos r2, r3, if_pos h1, r1]
    rw [e]
    simp only [listR, hb]
    rw [show (240 + k) % 16 = k by omega, show (240 + k) / 16 = 15 by omega, if_neg (by rw [hk]; simp), if_pos rfl, hs, if_pos rfl, List.length_cons, Nat.add_comm]
theorem field_none (last id k : Int) (h : ¬ (isK k = true ∧ inR id = true)) : fieldB last id k = [] := by
  rw [fieldB, if_neg (fun g => h ⟨g.1, decide_eq_true g.2⟩)]
theorem field_some (last id k : Int) (hk : isK k = true) (hi : inR id = true) : 0 < (fieldB last id k).length ∧ (fieldB last id k).length ≤ 11 := by
  obtain ⟨i0, i1⟩ : -32768 ≤ id ∧ id ≤ 32767 := of_decide_eq_true hi
  obtain ⟨z0, z1⟩ := zigV_bd id (by omega) (by omega)
  have hlen := varB_len_le 9 10 (zigV id) (by omega) (by omega) (by omega)
  rw [fieldB, if_pos ⟨hk, i0, i1⟩]
  split
  · simp
  · rw [List.length_cons]; omega
theorem field_len (last id k : Int) : (fieldB last id k).length ≤ 11 := by
  by_cases h : isK k = true ∧ inR id = true
  · exact (field_some last id k h.1 h.2).2
  · rw [field_none _ _ _ h]; simp
theorem list_none (n k : Int) (h : ¬ (isK k = true ∧ 0 ≤ n ∧ n ≤ 2147483647)) : listB n k = [] := by rw [listB, if_neg h]
theorem list_some (n k : Int) (hk : isK k = true) (h0 : 0 ≤ n) (h1 : n ≤ 2147483647) : 0 < (listB n k).length ∧ (listB n k).length ≤ 11 := by
  have hlen := varB_len_le 9 10 n (by omega) (by omega) (by omega)
  rw [listB, if_pos ⟨hk, h0, h1⟩]
  split
  · simp
  · rw [List.length_cons]; omega
theorem list_len (n k : Int) : (listB n k).length ≤ 11 := by
  by_cases h : isK k = true ∧ 0 ≤ n ∧ n ≤ 2147483647
  · exact (list_some n k h.1 h.2.1 h.2.2).2
  · rw [list_none _ _ h]; simp
theorem map_len (n k j : Int) : (mapB n k j).length ≤ 11 := by
  unfold mapB
  split
  · simp
  · split
    · rename_i h
      have hlen := varB_len_le 9 10 n (by omega) (by omega) (by omega)
      rw [List.length_append, List.length_singleton]; omega
    · simp
theorem same_ways (k j : Int) (h0 : 0 ≤ k) (h1 : k ≤ 255) (g0 : 0 ≤ j) (g1 : j ≤ 255) :
    sameB k j = (k == j || ((k + j) % 256 == 3 && decide (0 < k) && decide (0 < j) && decide (k < 3))) := by
  unfold sameB
  rw [Bool.eq_iff_iff]
  simp only [Bool.or_eq_true, Bool.and_eq_true, beq_iff_eq, decide_eq_true_eq]
  omega
end Go.Proofs.Ytdjbgojdkaipfaa
