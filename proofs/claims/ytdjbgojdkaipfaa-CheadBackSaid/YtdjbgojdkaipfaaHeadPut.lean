/-
  The laying of package chead: the heads of lists.
-/
import Derived.Test.YtdjbgojdkaipfaaHeadP
namespace Go.Proofs.Ytdjbgojdkaipfaa
open Go.RowKit

/-- The bytes that a slice holds; nil has no room. -/
def BsN (w : World) (B : Nat) (v : Value) (l : List UInt8) : Prop := ∃ A c, v = .slice A l.length c ∧ Reads w B 1 A l.length (b8s l) ∧ (A = none → c = 0)
def listB (n k : Int) : List UInt8 :=
  if isK k = true ∧ 0 ≤ n ∧ n ≤ 2147483647 then (if n < 15 then [bt (n * 16 + k)] else bt (240 + k) :: varB 9 n) else []
theorem nib_or (n k : Int) (n0 : 0 ≤ n) (n1 : n < 16) (k0 : 0 ≤ k) (k1 : k < 16) : bits .or .u8 (n * 16) k = n * 16 + k := by
  have h : ∀ a b : Fin 16, bits .or .u8 ((a.val : Int) * 16) (b.val : Int) = (a.val : Int) * 16 + b.val := by decide +kernel
  have := h ⟨n.toNat, by omega⟩ ⟨k.toNat, by omega⟩
  simpa [Int.toNat_of_nonneg n0, Int.toNat_of_nonneg k0] using this
set_option maxRecDepth 100000 in
set_option maxHeartbeats 4000000 in
theorem putlist_any (vb : Value) (p : List UInt8) (n k : Int) (w : World) (hb0 : BsN w w.heap.size vb p) (h0 : 0 ≤ k) (h1 : k ≤ 255) (hs : p.length ≤ 140737488351232) :
    Calls Try.prog 60 #[vb, .int .i64 n, .int .u8 k] w fun e w' => ∃ v, e = .returned v ∧ Own w' w.heap.size v (p ++ listB n k) ∧ Below w.heap.size w w' := by
  obtain ⟨A, c, rfl, hr, hn⟩ := hb0
  have HR := hid hr
  have HN := hid hn
  clear hr hn
  by_cases hk : isK k = true
  case neg =>
    have HL := hid (show listB n k = [] by rw [listB, if_neg (fun h => hk h.1)])
    have HK := hid (show isK k = false by simpa using hk)
    clear hk
    go_enter Try.func60, Try.ntmps60
    go_wp2_with (at_builtin; refine wpList_appAll rfl (.tmp 8) (.tmp 9) rfl w _ [] rfl (Own.new0 w _ (Nat.le_refl _)) (ext_alloc _ _) A c w.heap.size p rfl (HR.out.below (ext_alloc _ _)) HN.out (by simp; omega) ?_; intro v1 w1 hown1 hbw1)
    refine (is_any k _ h0 h1).mono ?_; rintro e w2 ⟨rfl, rfl⟩
    rw [HK.out]
    go_wp2_with fail
    go_ret
    exact ⟨_, rfl, by rw [HL.out]; simpa using hown1, hbw1⟩
  have HK := hid hk
  obtain ⟨q0, q1⟩ : 1 ≤ k ∧ k ≤ 12 := by simpa [isK] using hk
  by_cases n0 : n < 0
  · have HL := hid (show listB n k = [] by rw [listB, if_neg (fun h => by omega)])
    clear hk
    go_enter Try.func60, Try.ntmps60
    go_wp2_with (at_builtin; refine wpList_appAll rfl (.tmp 8) (.tmp 9) rfl w _ [] rfl (Own.new0 w _ (Nat.le_refl _)) (ext_alloc _ _) A c w.heap.size p rfl (HR.out.below (ext_alloc _ _)) HN.out (by simp; omega) ?_; intro v1 w1 hown1 hbw1)
    refine (is_any k _ h0 h1).mono ?_; rintro e w2 ⟨rfl, rfl⟩
    rw [HK.out]
    go_wp2_with fail
    go_ret
    exact ⟨_, rfl, by rw [HL.out]; simpa using hown1, hbw1⟩
  by_cases n1 : 2147483647 < n
  · have HL := hid (show listB n k = [] by rw [listB, if_neg (fun h => by omega)])
    clear hk
    go_enter Try.func60, Try.ntmps60
    go_wp2_with (at_builtin; refine wpList_appAll rfl (.tmp 8) (.tmp 9) rfl w _ [] rfl (Own.new0 w _ (Nat.le_refl _)) (ext_alloc _ _) A c w.heap.size p rfl (HR.out.below (ext_alloc _ _)) HN.out (by simp; omega) ?_; intro v1 w1 hown1 hbw1)
    refine (is_any k _ h0 h1).mono ?_; rintro e w2 ⟨rfl, rfl⟩
    rw [HK.out]
    go_wp2_with fail
    go_ret
    exact ⟨_, rfl, by rw [HL.out]; simpa using hown1, hbw1⟩
  by_cases n15 : n < 15
  · have HL := hid (show listB n k = [bt (n * 16 + k)] by rw [listB, if_pos ⟨hk, by omega, by omega⟩, if_pos n15])
    have hor := nib_or n k (by omega) (by omega) (by omega) (by omega)
    have hw1 : n % 256 = n := by omega
    have hw2 : n * 16 % 256 = n * 16 := by omega
    have g0 : 0 ≤ n * 16 + k := by omega
    have g1 : n * 16 + k ≤ 255 := by omega
    clear hk
    go_enter Try.func60, Try.ntmps60
    go_wp2_with (at_builtin; refine wpList_appAll rfl (.tmp 8) (.tmp 9) rfl w _ [] rfl (Own.new0 w _ (Nat.le_refl _)) (ext_alloc _ _) A c w.heap.size p rfl (HR.out.below (ext_alloc _ _)) HN.out (by simp; omega) ?_; intro v1 w1 hown1 hbw1)
    refine (is_any k _ h0 h1).mono ?_; rintro e w2 ⟨rfl, rfl⟩
    rw [HK.out]
    simp only [List.nil_append] at hown1
    go_wp2_with (at_builtin; refine wpList_app1 rfl (.tmp 25) (.tmp 31) rfl w v1 p rfl (n * 16 + k) hown1 hbw1 rfl g0 g1 (by omega) ?_; intro v2 w2 hown2 hbw2)
    go_ret
    exact ⟨_, rfl, by rw [HL.out]; exact hown2, hbw2⟩
  · have HL := hid (show listB n k = bt (240 + k) :: varB 9 n by rw [listB, if_pos ⟨hk, by omega, by omega⟩, if_neg n15])
    have hor : bits .or .u8 240 k = 240 + k := nib_or 15 k (by omega) (by omega) (by omega) (by omega)
    have g0 : 0 ≤ 240 + k := by omega
    have g1 : 240 + k ≤ 255 := by omega
    clear hk
    go_enter Try.func60, Try.ntmps60
    go_wp2_with (at_builtin; refine wpList_appAll rfl (.tmp 8) (.tmp 9) rfl w _ [] rfl (Own.new0 w _ (Nat.le_refl _)) (ext_alloc _ _) A c w.heap.size p rfl (HR.out.below (ext_alloc _ _)) HN.out (by simp; omega) ?_; intro v1 w1 hown1 hbw1)
    refine (is_any k _ h0 h1).mono ?_; rintro e w2 ⟨rfl, rfl⟩
    rw [HK.out]
    simp only [List.nil_append] at hown1
    go_wp2_with (at_builtin; refine wpList_app1 rfl (.tmp 33) (.tmp 36) rfl w v1 p rfl (240 + k) hown1 hbw1 rfl g0 g1 (by omega) ?_; intro v2 w2 hown2 hbw2)
    refine (vput_any v2 (p ++ [bt (240 + k)]) n w2 hown2.bs (by omega) (by omega) (by simp; omega)).mono ?_; rintro e w3 ⟨v3, rfl, hown3, hbw3⟩
    go_wp2_with fail
    go_ret
    exact ⟨_, rfl, by rw [HL.out]; simpa using hown3.mono hbw2.size, hbw2.trans (hbw3.mono hbw2.size)⟩
end Go.Proofs.Ytdjbgojdkaipfaa
