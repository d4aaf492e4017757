/-
  Walk of the reference of package jnum: power, zeros.
-/
import Derived.Test.YtgfdmdikiickpaaJnumY
import Derived.Test.YtgfdmdikiickpaaJnumSplit
namespace Go.Proofs.Ytgfdmdikiickpaa
open Go.RowKit

def powS (n : Int) (b : UInt8) : Int := if 48 ≤ bi b ∧ bi b ≤ 57 then min capF (10 * n + (bi b - 48)) else n
def powR (l : List UInt8) : Int := l.foldl powS 0
theorem powR_take (l : List UInt8) (k : Nat) (h : k < l.length) : powR (l.take (k + 1)) = if 48 ≤ byteAt l k ∧ byteAt l k ≤ 57 then min capF (10 * powR (l.take k) + (byteAt l k - 48)) else powR (l.take k) := by
  rw [List.take_succ_eq_append_getElem h, byteAt_getElem l k h]
  unfold powR
  rw [List.foldl_append]
  rfl
theorem powR_bd (l : List UInt8) : ∀ k, k ≤ l.length → 0 ≤ powR (l.take k) ∧ powR (l.take k) ≤ capF
  | 0, _ => by simp [powR, capF]
  | k + 1, h => by
    have ih := powR_bd l k (by omega)
    rw [powR_take l k (by omega)]
    unfold capF at *
    split <;> omega
theorem powR_digs : ∀ (l : List UInt8) (n : Int), Digs l → l.foldl powS n = powA n l
  | [], _, _ => rfl
  | b :: r, n, h => by
    obtain ⟨h0, h1, h2⟩ := h.cons
    show r.foldl powS (powS n b) = powA (min capF (10 * n + (bi b - 48))) r
    rw [powR_digs r _ h2]
    unfold powS
    rw [if_pos ⟨h0, h1⟩]
def rpowV (p : List UInt8) : Int := if byteAt p 0 = 45 then - powR p else powR p
theorem rpowV_eq {p : List UInt8} (h : Digs (unS p)) : rpowV p = powV p := by
  have e : powR p = powA 0 (unS p) := by
    cases p with
    | nil => rfl
    | cons b r =>
      by_cases hb : b = 43 ∨ b = 45
      · have hu : unS (b :: r) = r := if_pos hb
        rw [hu] at h ⊢
        have hs : powS 0 b = 0 := by
          rcases hb with rfl | rfl <;> decide
        show r.foldl powS (powS 0 b) = _
        rw [hs, powR_digs r 0 h]
      · have hu : unS (b :: r) = b :: r := if_neg hb
        rw [hu] at h ⊢
        exact powR_digs _ 0 h
  unfold rpowV powV
  rw [e]
set_option maxRecDepth 100000 in
set_option maxHeartbeats 1000000 in
theorem rpower_any (p : List UInt8) (w : World) (hs : p.length ≤ 1000000) :
    Calls Try.prog 23 #[Sv p] w fun e w' => e = .returned (.int .i64 (rpowV p)) ∧ w = w' := by
  have HPB := hid (powR_bd p)
  by_cases hp : p = []
  · subst hp
    go_enter Try.func23, Try.ntmps23
    go_wp2
    go_ret
    exact ⟨rfl, rfl⟩
  · have q : (p == []) = false := by simpa using hp
    have hl : 0 < p.length := List.length_pos_iff.2 hp
    clear hp
    by_cases h45 : byteAt p 0 = 45
    · have q45 : (byteAt p 0 == 45) = true := by rw [h45]; rfl
      have HR := hid (show rpowV p = - powR p by unfold rpowV; rw [if_pos h45])
      clear h45
      go_enter Try.func23, Try.ntmps23
      go_wp2
      go_loop [4, 5] (fun n i => ∃ k : Nat, k ≤ p.length ∧ i = .int .i64 (k : Int) ∧ n = .int .i64 (powR (p.take k))) (fun _ i => p.length - (intOf i).toNat)
      case atStart => exact ⟨0, Nat.zero_le _, rfl, rfl⟩
      case round =>
        obtain ⟨k, hk, rfl, rfl⟩ := hrel
        obtain ⟨n0, n1⟩ := HPB.out k hk
        by_cases hlt : k < p.length
        · have HS0 := powR_take p k hlt
          generalize powR (p.take k) = N at HS0 n0 n1 ⊢
          unfold capF at HS0 n1
          by_cases d1 : 48 ≤ byteAt p k
          · by_cases d2 : byteAt p k ≤ 57
            · rw [if_pos ⟨d1, d2⟩] at HS0
              have HS := hid HS0
              clear HS0
              go_wp2
              go_round
              case rel => exact ⟨k + 1, by omega, by go_num, by rw [HS.out]; congr 1; split <;> omega⟩
              case measure => simp [intOf]; omega
            · rw [if_neg (fun h => d2 h.2)] at HS0
              have HS := hid HS0
              clear HS0
              go_wp2
              go_round
              case rel => exact ⟨k + 1, by omega, by go_num, by rw [HS.out]⟩
              case measure => simp [intOf]; omega
          · rw [if_neg (fun h => d1 h.1)] at HS0
            have HS := hid HS0
            clear HS0
            go_wp2
            go_round
            case rel => exact ⟨k + 1, by omega, by go_num, by rw [HS.out]⟩
            case measure => simp [intOf]; omega
        · obtain rfl : k = p.length := by omega
          rw [List.take_length] at n0 n1
          unfold capF at n1
          rw [List.take_length]
          go_wp2
          go_ret
          exact ⟨by rw [HR.out]; rfl, rfl⟩
    · have q45 : (byteAt p 0 == 45) = false := by simpa using h45
      have HR := hid (show rpowV p = powR p by unfold rpowV; rw [if_neg h45])
      clear h45
      go_enter Try.func23, Try.ntmps23
      go_wp2
      go_loop [4, 5] (fun n i => ∃ k : Nat, k ≤ p.length ∧ i = .int .i64 (k : Int) ∧ n = .int .i64 (powR (p.take k))) (fun _ i => p.length - (intOf i).toNat)
      case atStart => exact ⟨0, Nat.zero_le _, rfl, rfl⟩
      case round =>
        obtain ⟨k, hk, rfl, rfl⟩ := hrel
        obtain ⟨n0, n1⟩ := HPB.out k hk
        by_cases hlt : k < p.length
        · have HS0 := powR_take p k hlt
          generalize powR (p.take k) = N at HS0 n0 n1 ⊢
          unfold capF at HS0 n1
          by_cases d1 : 48 ≤ byteAt p k
          · by_cases d2 : byteAt p k ≤ 57
            · rw [if_pos ⟨d1, d2⟩] at HS0
              have HS := hid HS0
              clear HS0
              go_wp2
              go_round
              case rel => exact ⟨k + 1, by omega, by go_num, by rw [HS.out]; congr 1; split <;> omega⟩
              case measure => simp [intOf]; omega
            · rw [if_neg (fun h => d2 h.2)] at HS0
              have HS := hid HS0
              clear HS0
              go_wp2
              go_round
              case rel => exact ⟨k + 1, by omega, by go_num, by rw [HS.out]⟩
              case measure => simp [intOf]; omega
          · rw [if_neg (fun h => d1 h.1)] at HS0
            have HS := hid HS0
            clear HS0
            go_wp2
            go_round
            case rel => exact ⟨k + 1, by omega, by go_num, by rw [HS.out]⟩
            case measure => simp [intOf]; omega
        · obtain rfl : k = p.length := by omega
          rw [List.take_length] at n0 n1
          unfold capF at n1
          rw [List.take_length]
          go_wp2
          go_ret
          exact ⟨by rw [HR.out]; rfl, rfl⟩
set_option maxRecDepth 100000 in
set_option maxHeartbeats 1000000 in
theorem rzeros_any (d : List UInt8) (w : World) (hs : d.length ≤ 1000000) :
    Calls Try.prog 24 #[Sv d] w fun e w' => e = .returned (.int .i64 (zerosN d : Int)) ∧ w = w' := by
  have hz := zerosN_le d
  go_enter Try.func24, Try.ntmps24
  go_wp2
  go_loop [3] (fun i => ∃ k : Nat, k ≤ zerosN d ∧ i = .int .i64 (k : Int)) (fun i => d.length - (intOf i).toNat)
  case atStart => exact ⟨0, Nat.zero_le _, rfl⟩
  case round =>
    obtain ⟨k, hk, rfl⟩ := hrel
    by_cases hlt : k < d.length
    · obtain ⟨j, hj⟩ : ∃ j, d.length - 1 - k = j := ⟨_, rfl⟩
      have hji : (d.length : Int) - 1 - k = (j : Int) := by omega
      by_cases hkz : k < zerosN d
      · have q : (byteAt d j == 48) = true := by rw [← hj, zerosN_at hkz]; rfl
        go_wp2
        go_round
        case rel => exact ⟨k + 1, by omega, by go_num⟩
        case measure => simp [intOf]; omega
      · have q : (byteAt d j == 48) = false := by
          rw [← hj, show k = zerosN d by omega, beq_eq_false_iff_ne]; exact zerosN_end (by omega)
        obtain rfl : k = zerosN d := by omega
        go_wp2
        go_ret
        exact ⟨rfl, rfl⟩
    · obtain rfl : k = zerosN d := by omega
      go_wp2
      go_ret
      exact ⟨rfl, rfl⟩
end Go.Proofs.Ytgfdmdikiickpaa
