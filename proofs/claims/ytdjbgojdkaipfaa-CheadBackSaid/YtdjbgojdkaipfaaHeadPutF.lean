/-
  The laying of package chead: the heads of fields.
-/
import Derived.Test.YtdjbgojdkaipfaaHeadPut
namespace Go.Proofs.Ytdjbgojdkaipfaa
open Go.RowKit

def fieldB (last id k : Int) : List UInt8 :=
  if isK k = true ∧ -32768 ≤ id ∧ id ≤ 32767 then (if -32768 ≤ last ∧ last < id ∧ id - last ≤ 15 then [bt ((id - last) * 16 + k)] else bt k :: varB 9 (zigV id)) else []
set_option maxRecDepth 100000 in
set_option maxHeartbeats 4000000 in
theorem putfield_any (vb : Value) (p : List UInt8) (last id k : Int) (w : World) (hb0 : BsN w w.heap.size vb p) (h0 : 0 ≤ k) (h1 : k ≤ 255) (hs : p.length ≤ 140737488351232) :
    Calls Try.prog 59 #[vb, .int .i64 last, .int .i64 id, .int .u8 k] w fun e w' => ∃ v, e = .returned v ∧ Own w' w.heap.size v (p ++ fieldB last id k) ∧ Below w.heap.size w w' := by
  obtain ⟨A, c, rfl, hr, hn⟩ := hb0
  have HR := hid hr
  have HN := hid hn
  clear hr hn
  by_cases hk : isK k = true
  case neg =>
    have HL := hid (show fieldB last id k = [] by rw [fieldB, if_neg (fun h => hk h.1)])
    have HK := hid (show isK k = false by simpa using hk)
    clear hk
    go_enter Try.func59, Try.ntmps59
    go_wp2_with (at_builtin; refine wpList_appAll rfl (.tmp 10) (.tmp 11) rfl w _ [] rfl (Own.new0 w _ (Nat.le_refl _)) (ext_alloc _ _) A c w.heap.size p rfl (HR.out.below (ext_alloc _ _)) HN.out (by simp; omega) ?_; intro v1 w1 hown1 hbw1)
    refine (is_any k _ h0 h1).mono ?_; rintro e w2 ⟨rfl, rfl⟩
    rw [HK.out]
    go_wp2_with fail
    go_ret
    exact ⟨_, rfl, by rw [HL.out]; simpa using hown1, hbw1⟩
  have HK := hid hk
  obtain ⟨q0, q1⟩ : 1 ≤ k ∧ k ≤ 12 := by simpa [isK] using hk
  by_cases n0 : id < -32768
  · have HL := hid (show fieldB last id k = [] by rw [fieldB, if_neg (fun h => by omega)])
    clear hk
    go_enter Try.func59, Try.ntmps59
    go_wp2_with (at_builtin; refine wpList_appAll rfl (.tmp 10) (.tmp 11) rfl w _ [] rfl (Own.new0 w _ (Nat.le_refl _)) (ext_alloc _ _) A c w.heap.size p rfl (HR.out.below (ext_alloc _ _)) HN.out (by simp; omega) ?_; intro v1 w1 hown1 hbw1)
    refine (is_any k _ h0 h1).mono ?_; rintro e w2 ⟨rfl, rfl⟩
    rw [HK.out]
    go_wp2_with fail
    go_ret
    exact ⟨_, rfl, by rw [HL.out]; simpa using hown1, hbw1⟩
  by_cases n1 : 32767 < id
  · have HL := hid (show fieldB last id k = [] by rw [fieldB, if_neg (fun h => by omega)])
    clear hk
    go_enter Try.func59, Try.ntmps59
    go_wp2_with (at_builtin; refine wpList_appAll rfl (.tmp 10) (.tmp 11) rfl w _ [] rfl (Own.new0 w _ (Nat.le_refl _)) (ext_alloc _ _) A c w.heap.size p rfl (HR.out.below (ext_alloc _ _)) HN.out (by simp; omega) ?_; intro v1 w1 hown1 hbw1)
    refine (is_any k _ h0 h1).mono ?_; rintro e w2 ⟨rfl, rfl⟩
    rw [HK.out]
    go_wp2_with fail
    go_ret
    exact ⟨_, rfl, by rw [HL.out]; simpa using hown1, hbw1⟩
  have Z0 := hid (show 0 ≤ zigV id by unfold zigV; split <;> omega)
  have Z1 := hid (show zigV id ≤ 18446744073709551615 by unfold zigV; split <;> omega)
  by_cases l0 : last < -32768
  · have HL := hid (show fieldB last id k = bt k :: varB 9 (zigV id) by rw [fieldB, if_pos ⟨hk, by omega, by omega⟩, if_neg (fun h => by omega)])
    clear hk
    go_enter Try.func59, Try.ntmps59
    go_wp2_with (at_builtin; refine wpList_appAll rfl (.tmp 10) (.tmp 11) rfl w _ [] rfl (Own.new0 w _ (Nat.le_refl _)) (ext_alloc _ _) A c w.heap.size p rfl (HR.out.below (ext_alloc _ _)) HN.out (by simp; omega) ?_; intro v1 w1 hown1 hbw1)
    refine (is_any k _ h0 h1).mono ?_; rintro e w2 ⟨rfl, rfl⟩
    rw [HK.out]
    simp only [List.nil_append] at hown1
    go_wp2_with (at_builtin; refine wpList_app1 rfl (.tmp 48) (.tmp 50) rfl w v1 p rfl k hown1 hbw1 rfl h0 h1 (by omega) ?_; intro v2 w2 hown2 hbw2)
    refine (zig_any id _ (by omega) (by omega)).mono ?_; rintro e w3 ⟨rfl, rfl⟩
    go_wp2_with fail
    refine (vput_any v2 (p ++ [bt k]) (zigV id) w2 hown2.bs Z0.out Z1.out (by simp; omega)).mono ?_; rintro e w3 ⟨v3, rfl, hown3, hbw3⟩
    go_wp2_with fail
    go_ret
    exact ⟨_, rfl, by rw [HL.out]; simpa using hown3.mono hbw2.size, hbw2.trans (hbw3.mono hbw2.size)⟩
  by_cases l1 : last < id
  case neg =>
    have HL := hid (show fieldB last id k = bt k :: varB 9 (zigV id) by rw [fieldB, if_pos ⟨hk, by omega, by omega⟩, if_neg (fun h => by omega)])
    clear hk
    go_enter Try.func59, Try.ntmps59
    go_wp2_with (at_builtin; refine wpList_appAll rfl (.tmp 10) (.tmp 11) rfl w _ [] rfl (Own.new0 w _ (Nat.le_refl _)) (ext_alloc _ _) A c w.heap.size p rfl (HR.out.below (ext_alloc _ _)) HN.out (by simp; omega) ?_; intro v1 w1 hown1 hbw1)
    refine (is_any k _ h0 h1).mono ?_; rintro e w2 ⟨rfl, rfl⟩
    rw [HK.out]
    simp only [List.nil_append] at hown1
    go_wp2_with (at_builtin; refine wpList_app1 rfl (.tmp 48) (.tmp 50) rfl w v1 p rfl k hown1 hbw1 rfl h0 h1 (by omega) ?_; intro v2 w2 hown2 hbw2)
    refine (zig_any id _ (by omega) (by omega)).mono ?_; rintro e w3 ⟨rfl, rfl⟩
    go_wp2_with fail
    refine (vput_any v2 (p ++ [bt k]) (zigV id) w2 hown2.bs Z0.out Z1.out (by simp; omega)).mono ?_; rintro e w3 ⟨v3, rfl, hown3, hbw3⟩
    go_wp2_with fail
    go_ret
    exact ⟨_, rfl, by rw [HL.out]; simpa using hown3.mono hbw2.size, hbw2.trans (hbw3.mono hbw2.size)⟩
  by_cases l2 : id - last ≤ 15
  case neg =>
    have HL := hid (show fieldB last id k = bt k :: varB 9 (zigV id) by rw [fieldB, if_pos ⟨hk, by omega, by omega⟩, if_neg (fun h => by omega)])
    clear hk
    go_enter Try.func59, Try.ntmps59
    go_wp2_with (at_builtin; refine wpList_appAll rfl (.tmp 10) (.tmp 11) rfl w _ [] rfl (Own.new0 w _ (Nat.le_refl _)) (ext_alloc _ _) A c w.heap.size p rfl (HR.out.below (ext_alloc _ _)) HN.out (by simp; omega) ?_; intro v1 w1 hown1 hbw1)
    refine (is_any k _ h0 h1).mono ?_; rintro e w2 ⟨rfl, rfl⟩
    rw [HK.out]
    simp only [List.nil_append] at hown1
    go_wp2_with (at_builtin; refine wpList_app1 rfl (.tmp 48) (.tmp 50) rfl w v1 p rfl k hown1 hbw1 rfl h0 h1 (by omega) ?_; intro v2 w2 hown2 hbw2)
    refine (zig_any id _ (by omega) (by omega)).mono ?_; rintro e w3 ⟨rfl, rfl⟩
    go_wp2_with fail
    refine (vput_any v2 (p ++ [bt k]) (zigV id) w2 hown2.bs Z0.out Z1.out (by simp; omega)).mono ?_; rintro e w3 ⟨v3, rfl, hown3, hbw3⟩
    go_wp2_with fail
    go_ret
    exact ⟨_, rfl, by rw [HL.out]; simpa using hown3.mono hbw2.size, hbw2.trans (hbw3.mono hbw2.size)⟩
  · have HL := hid (show fieldB last id k = [bt ((id - last) * 16 + k)] by rw [fieldB, if_pos ⟨hk, by omega, by omega⟩, if_pos ⟨by omega, l1, l2⟩])
    have hor := nib_or (id - last) k (by omega) (by omega) (by omega) (by omega)
    have hw1 : (id - last) % 256 = id - last := by omega
    have hw2 : (id - last) * 16 % 256 = (id - last) * 16 := by omega
    have g0 : 0 ≤ (id - last) * 16 + k := by omega
    have g1 : (id - last) * 16 + k ≤ 255 := by omega
    clear hk
    go_enter Try.func59, Try.ntmps59
    go_wp2_with (at_builtin; refine wpList_appAll rfl (.tmp 10) (.tmp 11) rfl w _ [] rfl (Own.new0 w _ (Nat.le_refl _)) (ext_alloc _ _) A c w.heap.size p rfl (HR.out.below (ext_alloc _ _)) HN.out (by simp; omega) ?_; intro v1 w1 hown1 hbw1)
    refine (is_any k _ h0 h1).mono ?_; rintro e w2 ⟨rfl, rfl⟩
    rw [HK.out]
    simp only [List.nil_append] at hown1
    go_wp2_with (at_builtin; refine wpList_app1 rfl (.tmp 38) (.tmp 46) rfl w v1 p rfl ((id - last) * 16 + k) hown1 hbw1 rfl g0 g1 (by omega) ?_; intro v2 w2 hown2 hbw2)
    go_ret
    exact ⟨_, rfl, by rw [HL.out]; exact hown2, hbw2⟩
end Go.Proofs.Ytdjbgojdkaipfaa
