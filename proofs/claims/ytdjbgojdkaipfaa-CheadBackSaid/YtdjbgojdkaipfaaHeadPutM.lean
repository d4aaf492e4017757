/-
  The laying of package chead: the heads of maps.
-/
import Derived.Test.YtdjbgojdkaipfaaHeadPutF
namespace Go.Proofs.Ytdjbgojdkaipfaa
open Go.RowKit

def mapB (n k j : Int) : List UInt8 :=
  if n = 0 then [bt 0] else if isK k = true ∧ isK j = true ∧ 0 ≤ n ∧ n ≤ 2147483647 then varB 9 n ++ [bt (k * 16 + j)] else []
set_option maxRecDepth 100000 in
set_option maxHeartbeats 4000000 in
theorem putmap_any (vb : Value) (p : List UInt8) (n k j : Int) (w : World) (hb0 : BsN w w.heap.size vb p) (h0 : 0 ≤ k) (h1 : k ≤ 255) (g0 : 0 ≤ j) (g1 : j ≤ 255) (hs : p.length ≤ 140737488351232) :
    Calls Try.prog 61 #[vb, .int .i64 n, .int .u8 k, .int .u8 j] w fun e w' => ∃ v, e = .returned v ∧ Own w' w.heap.size v (p ++ mapB n k j) ∧ Below w.heap.size w w' := by
  obtain ⟨A, c, rfl, hr, hn⟩ := hb0
  have HR := hid hr
  have HN := hid hn
  clear hr hn
  by_cases hz : n = 0
  · have HL := hid (show mapB n k j = [bt 0] by rw [mapB, if_pos hz])
    have hz1 : (n == 0) = true := by simpa using hz
    clear hz
    go_enter Try.func61, Try.ntmps61
    go_wp2_with (at_builtin; first
      | (refine wpList_appAll rfl (.tmp 10) (.tmp 11) rfl w _ [] rfl (Own.new0 w _ (Nat.le_refl _)) (ext_alloc _ _) A c w.heap.size p rfl (HR.out.below (ext_alloc _ _)) HN.out (by simp; omega) ?_; intro v1 w1 hown1 hbw1)
      | (refine wpList_app1 rfl (.tmp 15) (.tmp 16) rfl w v1 p rfl 0 hown1 hbw1 rfl (by omega) (by omega) (by omega) ?_; intro v2 w2 hown2 hbw2))
    go_ret
    exact ⟨_, rfl, by rw [HL.out]; exact hown2, hbw2⟩
  have hz1 : (n == 0) = false := by simpa using hz
  by_cases hk : isK k = true
  case neg =>
    have HL := hid (show mapB n k j = [] by rw [mapB, if_neg hz, if_neg (fun h => hk h.1)])
    have HK := hid (show isK k = false by simpa using hk)
    clear hk
    go_enter Try.func61, Try.ntmps61
    go_wp2_with (at_builtin; refine wpList_appAll rfl (.tmp 10) (.tmp 11) rfl w _ [] rfl (Own.new0 w _ (Nat.le_refl _)) (ext_alloc _ _) A c w.heap.size p rfl (HR.out.below (ext_alloc _ _)) HN.out (by simp; omega) ?_; intro v1 w1 hown1 hbw1)
    refine (is_any k _ h0 h1).mono ?_; rintro e w2 ⟨rfl, rfl⟩
    rw [HK.out]
    go_wp2_with fail
    go_ret
    exact ⟨_, rfl, by rw [HL.out]; simpa using hown1, hbw1⟩
  have HK := hid hk
  by_cases hj : isK j = true
  case neg =>
    have HL := hid (show mapB n k j = [] by rw [mapB, if_neg hz, if_neg (fun h => hj h.2.1)])
    have HJ := hid (show isK j = false by simpa using hj)
    clear hk hj
    go_enter Try.func61, Try.ntmps61
    go_wp2_with (at_builtin; refine wpList_appAll rfl (.tmp 10) (.tmp 11) rfl w _ [] rfl (Own.new0 w _ (Nat.le_refl _)) (ext_alloc _ _) A c w.heap.size p rfl (HR.out.below (ext_alloc _ _)) HN.out (by simp; omega) ?_; intro v1 w1 hown1 hbw1)
    refine (is_any k _ h0 h1).mono ?_; rintro e w2 ⟨rfl, rfl⟩
    rw [HK.out]
    go_wp2_with fail
    refine (is_any j _ g0 g1).mono ?_; rintro e w2 ⟨rfl, rfl⟩
    rw [HJ.out]
    go_wp2_with fail
    go_ret
    exact ⟨_, rfl, by rw [HL.out]; simpa using hown1, hbw1⟩
  have HJ := hid hj
  obtain ⟨q0, q1⟩ : 1 ≤ k ∧ k ≤ 12 := by simpa [isK] using hk
  obtain ⟨q2, q3⟩ : 1 ≤ j ∧ j ≤ 12 := by simpa [isK] using hj
  by_cases n0 : n < 0
  · have HL := hid (show mapB n k j = [] by rw [mapB, if_neg hz, if_neg (fun h => by omega)])
    clear hk hj
    go_enter Try.func61, Try.ntmps61
    go_wp2_with (at_builtin; refine wpList_appAll rfl (.tmp 10) (.tmp 11) rfl w _ [] rfl (Own.new0 w _ (Nat.le_refl _)) (ext_alloc _ _) A c w.heap.size p rfl (HR.out.below (ext_alloc _ _)) HN.out (by simp; omega) ?_; intro v1 w1 hown1 hbw1)
    refine (is_any k _ h0 h1).mono ?_; rintro e w2 ⟨rfl, rfl⟩
    rw [HK.out]
    go_wp2_with fail
    refine (is_any j _ g0 g1).mono ?_; rintro e w2 ⟨rfl, rfl⟩
    rw [HJ.out]
    go_wp2_with fail
    go_ret
    exact ⟨_, rfl, by rw [HL.out]; simpa using hown1, hbw1⟩
  by_cases n1 : 2147483647 < n
  · have HL := hid (show mapB n k j = [] by rw [mapB, if_neg hz, if_neg (fun h => by omega)])
    clear hk hj
    go_enter Try.func61, Try.ntmps61
    go_wp2_with (at_builtin; refine wpList_appAll rfl (.tmp 10) (.tmp 11) rfl w _ [] rfl (Own.new0 w _ (Nat.le_refl _)) (ext_alloc _ _) A c w.heap.size p rfl (HR.out.below (ext_alloc _ _)) HN.out (by simp; omega) ?_; intro v1 w1 hown1 hbw1)
    refine (is_any k _ h0 h1).mono ?_; rintro e w2 ⟨rfl, rfl⟩
    rw [HK.out]
    go_wp2_with fail
    refine (is_any j _ g0 g1).mono ?_; rintro e w2 ⟨rfl, rfl⟩
    rw [HJ.out]
    go_wp2_with fail
    go_ret
    exact ⟨_, rfl, by rw [HL.out]; simpa using hown1, hbw1⟩
  have HL := hid (show mapB n k j = varB 9 n ++ [bt (k * 16 + j)] by rw [mapB, if_neg hz, if_pos ⟨hk, hj, by omega, by omega⟩])
  have hor := nib_or k j (by omega) (by omega) (by omega) (by omega)
  have hw1 : k % 256 = k := by omega
  have hw2 : k * 16 % 256 = k * 16 := by omega
  have r0 : 0 ≤ k * 16 + j := by omega
  have r1 : k * 16 + j ≤ 255 := by omega
  have hlen := hid (varB_len_le 9 10 n (by omega) (by omega) (by omega))
  clear hk hj
  · go_enter Try.func61, Try.ntmps61
    go_wp2_with (at_builtin; refine wpList_appAll rfl (.tmp 10) (.tmp 11) rfl w _ [] rfl (Own.new0 w _ (Nat.le_refl _)) (ext_alloc _ _) A c w.heap.size p rfl (HR.out.below (ext_alloc _ _)) HN.out (by simp; omega) ?_; intro v1 w1 hown1 hbw1)
    refine (is_any k _ h0 h1).mono ?_; rintro e w2 ⟨rfl, rfl⟩
    rw [HK.out]
    go_wp2_with fail
    refine (is_any j _ g0 g1).mono ?_; rintro e w2 ⟨rfl, rfl⟩
    rw [HJ.out]
    go_wp2_with fail
    simp only [List.nil_append] at hown1
    refine (vput_any v1 p n w1 hown1.bs (by omega) (by omega) (by omega)).mono ?_; rintro e w3 ⟨v3, rfl, hown3, hbw3⟩
    have hown3' : Own w3 w.heap.size v3 (p ++ varB 9 n) := hown3.mono hbw1.size
    have hbw3' := hbw1.trans (hbw3.mono hbw1.size)
    clear hown3 hbw3
    go_wp2_with (at_builtin; refine wpList_app1 rfl (.tmp 38) (.tmp 43) rfl w v3 (p ++ varB 9 n) rfl (k * 16 + j) hown3' hbw3' rfl r0 r1 (by have := hlen.out; rw [List.length_append]; omega) ?_; intro v2 w2 hown2 hbw2)
    go_ret
    exact ⟨_, rfl, by rw [HL.out, ← List.append_assoc]; exact hown2, hbw2⟩
end Go.Proofs.Ytdjbgojdkaipfaa
