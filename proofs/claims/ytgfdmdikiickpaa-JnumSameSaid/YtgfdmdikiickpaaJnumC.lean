/-
  Walks of package jnum: one byte of some; a number; reading it.
-/
import Derived.Test.YtgfdmdikiickpaaJnumB
namespace Go.Proofs.Ytgfdmdikiickpaa
open Go.RowKit

def eatB (m : List UInt8) (c : Cu) : Bool := decide (c.code = 0 ∧ eatN m c.ahead = 1)
theorem eatB_bad {m : List UInt8} {c : Cu} (h : c.peeks = false) : eatB m c = false := by
  unfold Cu.peeks at h
  unfold eatB
  refine decide_eq_false (fun ⟨h0, h1⟩ => ?_)
  have hlt : ¬ c.pos < c.en := fun hl => by rw [decide_eq_true ⟨h0, hl⟩] at h; cases h
  rw [ahead_nil hlt] at h1
  cases h1
theorem eatB_hit {m : List UInt8} {c : Cu} (hf : c.fit) (h : c.peeks = true) {k : Nat} (hk : k < m.length) (he : c.peek = byteAt m k) : eatB m c = true := by
  unfold Cu.peeks at h
  obtain ⟨h0, hlt⟩ := of_decide_eq_true h
  unfold eatB
  refine decide_eq_true ⟨h0, ?_⟩
  rw [ahead_cons hlt hf]
  simp only [eatN]
  rw [if_pos]
  rw [ofByte_mem]
  refine ⟨m[k], List.getElem_mem hk, ?_⟩
  unfold Cu.peek at he
  rw [if_pos ⟨h0, hlt⟩] at he
  rw [he, byteAt_getElem m k hk]
theorem eatB_miss {m : List UInt8} {c : Cu} (hf : c.fit) (h : c.peeks = true) (he : ∀ k, k < m.length → c.peek ≠ byteAt m k) : eatB m c = false := by
  unfold Cu.peeks at h
  obtain ⟨h0, hlt⟩ := of_decide_eq_true h
  unfold eatB
  refine decide_eq_false (fun ⟨_, h1⟩ => ?_)
  rw [ahead_cons hlt hf] at h1
  simp only [eatN] at h1
  split at h1
  · rename_i hm
    rw [ofByte_mem] at hm
    obtain ⟨b, hb, e⟩ := hm
    obtain ⟨k, hk, rfl⟩ := List.getElem_of_mem hb
    refine he k hk ?_
    unfold Cu.peek
    rw [if_pos ⟨h0, hlt⟩, e, byteAt_getElem m k hk]
  · cases h1
def eatTo (m : List UInt8) (c : Cu) : Cu := if eatB m c = true then { c with pos := c.pos + 1 } else c
theorem eat_rd {m : List UInt8} {c : Cu} (hf : c.fit) : RdF (eatR m) c (eatTo m c) := by
  unfold eatTo
  by_cases h : eatB m c = true
  · rw [if_pos h]
    obtain ⟨h0, h1⟩ := of_decide_eq_true h
    have hl := (eatN_le m c.ahead).2
    rw [Cu.ahead_length hf, h1] at hl
    have l1 := hf.le1
    refine ⟨rfl, rfl, ⟨by show c.pos + 1 ≤ c.en; omega, hf.le2, hf.le3⟩, fun q => absurd h0 q, fun _ => ⟨h0, fun _ => ?_⟩⟩
    show _ = ({ c with pos := c.pos + eatN m c.ahead } : Cu)
    rw [h1]
  · rw [if_neg h]
    refine ⟨rfl, rfl, hf, fun _ => rfl, fun h0 => ⟨h0, fun _ => ?_⟩⟩
    have h1 : eatN m c.ahead = 0 := by
      have := (eatN_le m c.ahead).1
      by_cases q : eatN m c.ahead = 1
      · exact absurd (decide_eq_true ⟨h0, q⟩) h
      · omega
    show c = ({ c with pos := c.pos + eatN m c.ahead } : Cu)
    rw [h1]; rfl
def NoHit (m : List UInt8) (c : Cu) (k : Nat) : Prop := ∀ j, j < k → c.peek ≠ byteAt m j
set_option maxRecDepth 100000 in
set_option maxHeartbeats 1000000 in
theorem eat_any (m : List UInt8) {w wr : World} {b bc p0 : Nat} {c : Cu} (hS : Sc w wr b bc p0 c) (hf : c.fit) (hsm : c.s.length ≤ 1000000) (hm : m.length ≤ 10) :
    Calls Try.prog 28 #[ptr b, Sv m] wr fun e w' => e = .returned (.bool (eatB m c)) ∧ Sc w w' b bc p0 (eatTo m c) := by
  have HS := hid hS
  have hc0 := hS.cells
  clear hS
  obtain ⟨y, hy⟩ : ∃ y, c.peek = y := ⟨_, rfl⟩
  have EY := hid hy
  have yb : 0 ≤ y ∧ y ≤ 255 := by
    rw [← hy]; unfold Cu.peek; split
    · exact ⟨byteAt_lo _ _, byteAt_hi _ _⟩
    · omega
  clear hy
  cases hp : c.peeks with
  | false =>
    have HB := hid (eatB_bad (m := m) hp)
    have HT := hid (show eatTo m c = c by unfold eatTo; rw [HB.out]; rfl)
    have HP := hid hp
    clear hp
    go_enter Try.func28, Try.ntmps28
    go_wp2_with fail
    refine (peek_sc HS.out hf).mono ?_; rintro e w1 ⟨rfl, hS1⟩
    rw [HP.out, EY.out]
    have HS1 := hid hS1
    clear hS1
    go_wp2_with fail
    go_loop [18] (fun i => ∃ k : Nat, k ≤ m.length ∧ i = .int .i64 (k : Int)) (fun i => m.length - (intOf i).toNat)
    case atStart => exact ⟨0, by omega, rfl⟩
    case round =>
      obtain ⟨k, hk, rfl⟩ := hrel
      by_cases hlt : k < m.length
      · go_wp2_with fail
        go_round
        case rel => exact ⟨k + 1, by omega, by go_num⟩
        case measure => simp [intOf]; omega
      · go_wp2_with fail
        go_ret
        exact ⟨by rw [HB.out]; rfl, by rw [HT.out]; exact HS1.out⟩
  | true =>
    have HP := hid hp
    obtain ⟨h0, hlp⟩ := of_decide_eq_true (show decide (c.code = 0 ∧ c.pos < c.en) = true from hp)
    have H0 := hid h0
    clear hp h0
    go_enter Try.func28, Try.ntmps28
    go_wp2_with fail
    refine (peek_sc HS.out hf).mono ?_; rintro e w1 ⟨rfl, hS1⟩
    rw [HP.out, EY.out]
    have HS1 := hid hS1
    have hc1 := HS1.out.cells
    clear hS1 hc0 HS
    go_wp2_with fail
    go_loop [18] (fun i => ∃ k : Nat, k ≤ m.length ∧ i = .int .i64 (k : Int) ∧ Hid (NoHit m c k)) (fun i => m.length - (intOf i).toNat)
    case atStart => exact ⟨0, by omega, rfl, hid (fun j hj => by omega)⟩
    case round =>
      obtain ⟨k, hk, rfl, HN⟩ := hrel
      by_cases hlt : k < m.length
      · by_cases he : y = byteAt m k
        · have heq : (y == byteAt m k) = true := by simpa using he
          have HB := hid (eatB_hit hf HP.out hlt (EY.out.trans he))
          have HT := hid (show eatTo m c = { c with pos := c.pos + 1 } by unfold eatTo; rw [if_pos HB.out])
          clear he
          go_wp2_with fail
          refine (take_any HS1.out hf H0.out hlp hsm).mono ?_; rintro e w2 ⟨rfl, hS2⟩
          have HS2 := hid hS2
          clear hS2
          go_wp2_with fail
          go_ret
          exact ⟨by rw [HB.out]; rfl, by rw [HT.out]; exact HS2.out⟩
        · have heq : (y == byteAt m k) = false := by simpa using he
          have HE := hid he
          clear he
          go_wp2_with fail
          go_round
          case rel => exact ⟨k + 1, by omega, by go_num, hid (fun j hj => by
            rcases Nat.lt_or_ge j k with h | h
            · exact HN.out j h
            · obtain rfl : j = k := by omega
              rw [EY.out]; exact HE.out)⟩
          case measure => simp [intOf]; omega
      · obtain rfl : k = m.length := by omega
        have HB := hid (eatB_miss hf HP.out HN.out)
        have HT := hid (show eatTo m c = c by unfold eatTo; rw [HB.out]; rfl)
        go_wp2_with fail
        go_ret
        exact ⟨by rw [HB.out]; rfl, by rw [HT.out]; exact HS1.out⟩
end Go.Proofs.Ytgfdmdikiickpaa
