/-
  Walks of package jnum: a power, digits without noughts ahead, a number's parts.
-/
import Derived.Test.YtgfdmdikiickpaaPJnumW
import Derived.Test.YtgfdmdikiickpaaJnumP
import Derived.Deep.DeepCutAuto
namespace Go.Proofs.Ytgfdmdikiickpaa
open Go.RowKit

theorem retJ {k : IntKind} {a b : Int} (h : a = b) : Ending.returned (.int k a) = .returned (.int k b) := by rw [h]
theorem dropZ_zero (s : List UInt8) (j : Nat) (h : j < s.length) (h0 : byteAt s j = 48) : dropZ (s.drop j) = dropZ (s.drop (j + 1)) := by
  rw [List.drop_eq_getElem_cons h]
  have : s[j] = 48 := bi_inj (by rw [← byteAt_getElem s j h, h0]; rfl)
  rw [dropZ, if_pos this]
theorem dropZ_stop (s : List UInt8) (j : Nat) (h : j < s.length) (h0 : byteAt s j ≠ 48) : dropZ (s.drop j) = s.drop j := by
  rw [List.drop_eq_getElem_cons h]
  have : s[j] ≠ 48 := fun e => h0 (by rw [byteAt_getElem s j h, e]; rfl)
  rw [dropZ, if_neg this]
set_option maxRecDepth 100000 in
set_option maxHeartbeats 1000000 in
theorem trim_any (s : List UInt8) (w : World) (hs : s.length ≤ 1000000) :
    Calls Try.prog 20 #[Sv s] w fun e w' => e = .returned (Sv (dropZ s)) ∧ w = w' := by
  go_enter Try.func20, Try.ntmps20
  go_wp2
  go_loop [0] (fun v => ∃ j : Nat, j ≤ s.length ∧ v = Sv (s.drop j) ∧ Hid (dropZ s = dropZ (s.drop j))) (fun v => match v with | .string b => b.size | _ => 0)
  case atStart => exact ⟨0, by omega, rfl, hid rfl⟩
  case round =>
    obtain ⟨j, hj, rfl, HR⟩ := hrel
    by_cases hlt : j < s.length
    · have hne : (s.drop j == ([] : List UInt8)) = false := by
        rw [List.drop_eq_getElem_cons hlt]; rfl
      have hne2 : (!(s.drop j == ([] : List UInt8))) = true := by rw [hne]; rfl
      have hl : 0 < (s.drop j).length := by rw [List.length_drop]; omega
      have hl1 : (1 : Int) ≤ ((s.drop j).length : Int) := by omega
      by_cases h0 : byteAt s j = 48
      · have q0 : (byteAt s j == 48) = true := by simpa using h0
        have HZ := hid (dropZ_zero s j hlt h0)
        have HM := hid (show (s.drop (j + 1)).length < (s.drop j).length by rw [List.length_drop, List.length_drop]; omega)
        clear h0
        go_wp2
        go_round
        case rel => exact ⟨j + 1, by omega, rfl, hid (by rw [HR.out, HZ.out])⟩
        case measure => exact HM.out
      · have q0 : (byteAt s j == 48) = false := by simpa using h0
        have HZ := hid (dropZ_stop s j hlt h0)
        clear h0
        go_wp2
        go_ret
        exact ⟨by rw [HR.out, HZ.out]; rfl, rfl⟩
    · have hnil : s.drop j = [] := List.drop_eq_nil_of_le (by omega)
      rw [hnil] at HR
      have HN := hid hnil
      rw [hnil]
      clear hnil
      go_wp2
      go_ret
      exact ⟨by rw [HR.out]; rfl, rfl⟩
set_option maxRecDepth 100000 in
set_option maxHeartbeats 1000000 in
theorem power_any (p : List UInt8) (w : World) (hs : p.length ≤ 1000000) (hp : p ≠ []) (hd : Digs (unS p)) :
    Calls Try.prog 30 #[Sv p] w fun e w' => e = .returned (.int .i64 (powV p)) ∧ w = w' := by
  obtain ⟨b, r, rfl⟩ := List.exists_cons_of_ne_nil hp
  by_cases h45 : b = 45
  · subst h45
    have q45 : (byteAt (45 :: r) 0 == 45) = true := rfl
    have HU := hid (show powV (45 :: r) = - powA 0 r from rfl)
    have hd' : Digs r := hd
    have HDG := hid hd'
    have HPB := hid (powA_bd r hd')
    have hr : r.length ≤ 1000000 := by simp at hs; omega
    clear hd hd' hp hs
    go_enter Try.func30, Try.ntmps30
    go_wp2
    go_loop [4, 21] (fun n i => ∃ k : Nat, k ≤ r.length ∧ i = .int .i64 (k : Int) ∧ n = .int .i64 (powA 0 (r.take k))) (fun _ i => r.length - (intOf i).toNat)
    case atStart => exact ⟨0, Nat.zero_le _, rfl, rfl⟩
    case round =>
      obtain ⟨k, hk, rfl, rfl⟩ := hrel
      obtain ⟨n0, n1⟩ := HPB.out k hk
      by_cases hlt : k < r.length
      · obtain ⟨d1, d2⟩ := HDG.out k hlt
        have HS := hid (powA_take r k hlt)
        generalize powA 0 (r.take k) = N at HS n0 n1 ⊢
        unfold capF at HS n1
        go_wp2
        go_round
        case rel => exact ⟨k + 1, by omega, by go_num, by rw [HS.out]; congr 1; split <;> omega⟩
        case measure => simp [intOf]; omega
      · obtain rfl : k = r.length := by omega
        rw [List.take_length] at n0 n1
        unfold capF at n1
        rw [List.take_length]
        go_wp2
        go_ret
        exact ⟨by rw [HU.out]; rfl, rfl⟩
  · by_cases h43 : b = 43
    · subst h43
      have q45 : (byteAt (43 :: r) 0 == 45) = false := rfl
      have q43 : (byteAt (43 :: r) 0 == 43) = true := rfl
      have HU := hid (show powV (43 :: r) = powA 0 r from rfl)
      have hd' : Digs r := hd
      have HDG := hid hd'
      have HPB := hid (powA_bd r hd')
      have hr : r.length ≤ 1000000 := by simp at hs; omega
      clear hd hd' hp hs h45
      go_enter Try.func30, Try.ntmps30
      go_wp2
      go_loop [4, 21] (fun n i => ∃ k : Nat, k ≤ r.length ∧ i = .int .i64 (k : Int) ∧ n = .int .i64 (powA 0 (r.take k))) (fun _ i => r.length - (intOf i).toNat)
      case atStart => exact ⟨0, Nat.zero_le _, rfl, rfl⟩
      case round =>
        obtain ⟨k, hk, rfl, rfl⟩ := hrel
        obtain ⟨n0, n1⟩ := HPB.out k hk
        by_cases hlt : k < r.length
        · obtain ⟨d1, d2⟩ := HDG.out k hlt
          have HS := hid (powA_take r k hlt)
          generalize powA 0 (r.take k) = N at HS n0 n1 ⊢
          unfold capF at HS n1
          go_wp2
          go_round
          case rel => exact ⟨k + 1, by omega, by go_num, by rw [HS.out]; congr 1; split <;> omega⟩
          case measure => simp [intOf]; omega
        · obtain rfl : k = r.length := by omega
          rw [List.take_length] at n0 n1
          unfold capF at n1
          rw [List.take_length]
          go_wp2
          go_ret
          exact ⟨by rw [HU.out]; rfl, rfl⟩
    · have hu : unS (b :: r) = b :: r := by show (if b = 43 ∨ b = 45 then r else b :: r) = _; rw [if_neg (by simp [h43, h45])]
      have hb : byteAt (b :: r) 0 = bi b := rfl
      have n45 : (byteAt (b :: r) 0 == 45) = false := by rw [hb, beq_eq_false_iff_ne]; intro h; exact h45 (bi_inj h)
      have n43 : (byteAt (b :: r) 0 == 43) = false := by rw [hb, beq_eq_false_iff_ne]; intro h; exact h43 (bi_inj h)
      have HU := hid (show powV (b :: r) = powA 0 (b :: r) by
        unfold powV
        rw [if_neg (by simpa using n45), hu])
      rw [hu] at hd
      have hl0 : 0 < (b :: r).length := by simp
      generalize b :: r = L at *
      have HDG := hid hd
      have HPB := hid (powA_bd L hd)
      clear hd hp h45 h43 hu hb
      go_enter Try.func30, Try.ntmps30
      go_wp2
      go_loop [4, 21] (fun n i => ∃ k : Nat, k ≤ L.length ∧ i = .int .i64 (k : Int) ∧ n = .int .i64 (powA 0 (L.take k))) (fun _ i => L.length - (intOf i).toNat)
      case atStart => exact ⟨0, Nat.zero_le _, rfl, rfl⟩
      case round =>
        obtain ⟨k, hk, rfl, rfl⟩ := hrel
        obtain ⟨n0, n1⟩ := HPB.out k hk
        by_cases hlt : k < L.length
        · obtain ⟨d1, d2⟩ := HDG.out k hlt
          have HS := hid (powA_take L k hlt)
          generalize powA 0 (L.take k) = N at HS n0 n1 ⊢
          unfold capF at HS n1
          go_wp2
          go_round
          case rel => exact ⟨k + 1, by omega, by go_num, by rw [HS.out]; congr 1; split <;> omega⟩
          case measure => simp [intOf]; omega
        · obtain rfl : k = L.length := by omega
          rw [List.take_length] at n0 n1
          unfold capF at n1
          rw [List.take_length]
          go_wp2
          go_ret
          exact ⟨by rw [HU.out]; rfl, rfl⟩
end Go.Proofs.Ytgfdmdikiickpaa
