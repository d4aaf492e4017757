/-
  Walks of package hexa.
-/
import Derived.Test.YtgfdmdikiickpaaDoorPHexa
import Derived.Test.YtgfdmdikiickpaaDoorBits
import Derived.Outline
import Derived.Deep.DeepFit
namespace Go.Proofs.YtgfdmdikiickpaaDoor
open Go.RowKit

def hexDigits : List UInt8 := [48, 49, 50, 51, 52, 53, 54, 55, 56, 57, 97, 98, 99, 100, 101, 102]
def hexS : ByteArray := ⟨#[48, 49, 50, 51, 52, 53, 54, 55, 56, 57, 97, 98, 99, 100, 101, 102]⟩

theorem hexS_size : hexS.size = 16 := rfl
theorem hex_at (k : Nat) (h : k < 16) (h' : k < hexS.size) : (hexS[k]'h').toNat < 128 ∧ ((hexS[k]'h').toNat : Int) = (if k < 10 then 48 + (k : Int) else 87 + (k : Int)) := by
  have : ∀ k : Fin 16, (hexS[k.val]'(k.isLt)).toNat < 128 ∧ ((hexS[k.val]'(k.isLt)).toNat : Int) = (if k.val < 10 then 48 + (k.val : Int) else 87 + (k.val : Int)) := by decide +kernel
  exact this ⟨k, h⟩
theorem nib_hit (c : Int) (k : Nat) (h : k < 16) (e : (if k < 10 then 48 + (k : Int) else 87 + (k : Int)) = c) : nibV c = k ∧ nibOk c = true := by
  unfold nibV nibOk
  split at e <;> simp <;> (repeat' split) <;> omega
theorem nib_miss (c : Int) (h : ∀ k : Nat, k < 16 → (if k < 10 then 48 + (k : Int) else 87 + (k : Int)) ≠ c) : nibV c = 0 ∧ nibOk c = false := by
  have h1 : ¬ (48 ≤ c ∧ c ≤ 57) := fun hh => by
    have := h (c - 48).toNat (by omega)
    rw [if_pos (by omega)] at this
    omega
  have h2 : ¬ (97 ≤ c ∧ c ≤ 102) := fun hh => by
    have := h (c - 87).toNat (by omega)
    rw [if_neg (by omega)] at this
    omega
  simp [nibV, nibOk, h1, h2]

def NibRel (c : Int) (pos : Nat) : Prop := ∀ k : Nat, k < pos → (if k < 10 then 48 + (k : Int) else 87 + (k : Int)) ≠ c
set_option maxRecDepth 100000 in
set_option maxHeartbeats 400000 in
theorem nibble_any (c : Int) (w : World) (h0 : 0 ≤ c) (h1 : c ≤ 255) :
    Calls Tryd.prog 96 #[.int .u8 c] w fun e w' => e = .returned (.tuple #[.int .i64 (nibV c), .bool (nibOk c)]) ∧ Below w.heap.size w w' := by
  go_enter Tryd.func96, Tryd.ntmps96
  go_wp2
  go_loopw [] (fun wr => ∃ pos : Nat, pos ≤ 16 ∧ wr.heap[w.heap.size]? = some (.stringIter hexS pos) ∧ Below w.heap.size w wr ∧ NibRel c pos) (fun wr => 16 - wr.iterPos w.heap.size)
  case atStart => exact ⟨0, by omega, World.iter_heap w hexS 0, (Below.refl _ _).alloc (Nat.le_refl _) _, fun k hk => by omega⟩
  case round =>
    obtain ⟨pos, hp, hit, hbw, hrel⟩ := hrel
    have hpos := hid (iterPos_of hit)
    have HR := hid hrel
    have HI := hid hit
    clear hrel
    by_cases hlt : pos < 16
    · have hnx := fun ty => Lib.run_next_ascii_at (P := Tryd.prog) wr w.heap.size hexS pos ty hit hlt (hex_at pos hlt hlt).1
      rw [(hex_at pos hlt hlt).2] at hnx
      clear hit
      generalize hd : (if pos < 10 then 48 + (pos : Int) else 87 + (pos : Int)) = d at hnx
      have HD := hid hd
      have hd0 : 48 ≤ d ∧ d ≤ 102 := by rw [← hd]; split <;> omega
      obtain ⟨hd0, hd1⟩ := hd0
      clear hd
      go_wp2
      · have e : c = d := by simpa using (by assumption : (c == d) = true)
        obtain ⟨n1, n2⟩ := nib_hit c pos hlt (by rw [HD.out, e])
        go_ret2
        exact ⟨by rw [n1, n2]; rfl, below_iterAt hbw (Nat.le_refl _) _ _⟩
      · have e : c ≠ d := by simpa using (by assumption : (c == d) = false)
        go_roundw
        case rel =>
          refine ⟨pos + 1, by omega, Lib.iterAt_heap _ _ _ _ _ HI.out, below_iterAt hbw (Nat.le_refl _) _ _, fun k hk => ?_⟩
          by_cases hk' : k < pos
          · exact HR.out k hk'
          · obtain rfl : k = pos := by omega
            rw [HD.out]; exact fun h => e h.symm
        case measure =>
          rw [hpos.out, iterPos_of (Lib.iterAt_heap _ _ _ _ _ HI.out)]
          omega
    · obtain rfl : pos = 16 := by omega
      have hnx := fun ty => Lib.run_next_end_at (P := Tryd.prog) wr w.heap.size hexS 16 ty hit (by decide)
      clear hit
      go_wp2
      obtain ⟨n1, n2⟩ := nib_miss c HR.out
      go_ret2
      exact ⟨by rw [n1, n2]; rfl, hbw⟩

def ReadRel (s : List UInt8) (k : Nat) (acc : List UInt8) : Prop := hexDec s = (hexDec (s.drop k)).map (acc ++ ·)
def hexOut (s : List UInt8) : Value := .tuple #[Sv ((hexDec s).getD []), .int .i64 (if (hexDec s).isSome then 0 else 3)]
set_option maxRecDepth 100000 in
set_option maxHeartbeats 1000000 in
theorem hread_any (s : List UInt8) (w : World) (hs : s.length ≤ 140737488355328) :
    Calls Tryd.prog 73 #[Sv s] w fun e w' => e = .returned (hexOut s) ∧ Below w.heap.size w w' := by
  by_cases hodd : s.length % 2 = 0
  case neg =>
    have he := hexDec_odd s hodd
    have hb : (((s.length : Int) % 2) != 0) = true := by rw [bne_iff_ne]; omega
    have HE := hid he
    clear he
    go_enter Tryd.func73, Tryd.ntmps73
    go_wp2
    go_ret2
    exact ⟨by unfold hexOut; rw [HE.out]; rfl, Below.refl _ _⟩
  have hb : (((s.length : Int) % 2) != 0) = false := by rw [bne_eq_false_iff_eq]; omega
  have HO := hid hodd
  clear hodd
  go_enter Tryd.func73, Tryd.ntmps73
  go_wp2_with (refine wpList_make0 rfl _ _ rfl .i64 .i64 _ (s.length / 2) rfl rfl (by omega) (by omega) w (Below.refl _ _) ?_; intro v0 w0 hown0 hb0)
  go_loopw [4, 5] (fun v i wr => ∃ (k : Nat) (acc : List UInt8), 2 * k ≤ s.length ∧ i = .int .i64 (2 * (k : Int)) ∧ acc.length ≤ k ∧ Own wr w.heap.size v acc ∧ Below w.heap.size w wr ∧ ReadRel s (2 * k) acc) (fun _ i _ => s.length - (intOf i).toNat)
  case atStart => exact ⟨0, [], by omega, rfl, by simp, hown0, hb0, by simp [ReadRel]⟩
  case round =>
    obtain ⟨k, acc, hk, rfl, ha, hown, hbw, hrel⟩ := hrel
    have HR := hid hrel
    clear hrel hown0 hb0
    by_cases hlt : 2 * k < s.length
    · have hlt2 : 2 * k + 1 < s.length := by have := HO.out; omega
      have n1 := byteAt_lo s (2 * k)
      have n2 := byteAt_hi s (2 * k)
      have n3 := byteAt_lo s (2 * k + 1)
      have n4 := byteAt_hi s (2 * k + 1)
      have m1 := (nibV_bd (byteAt s (2 * k))).1
      have m2 := (nibV_bd (byteAt s (2 * k))).2
      have m3 := (nibV_bd (byteAt s (2 * k + 1))).1
      have m4 := (nibV_bd (byteAt s (2 * k + 1))).2
      by_cases hab : nibOk (byteAt s (2 * k)) = true ∧ nibOk (byteAt s (2 * k + 1)) = true
      · obtain ⟨hA, hB⟩ := hab
        have st := hid (hexDec_step s acc (2 * k) hlt2 hA hB)
        have hor := or16 _ _ m1 m2 m3 m4
        go_wp2_with (first
          | (go_at_call 96; refine (nibble_any _ _ (by omega) (by omega)).mono ?_; rintro e w' ⟨rfl, hb'⟩; have hown := hown.below hb'; have hbw := hbw.trans (hb'.mono hbw.size))
          | (at_builtin; refine wpList_app1 rfl (.tmp 45) (.tmp 51) rfl w u4 acc rfl _ hown hbw rfl (by omega) (by omega) (by omega) ?_; intro v1 w1 hown1 hbw1))
        go_roundw
        case rel =>
          refine ⟨k + 1, _, by omega, by go_num, ?_, hown1, hbw1, ?_⟩
          · simp; omega
          · have e : (nibV (byteAt s (2 * k)) * 16 + nibV (byteAt s (2 * k + 1))) = (nibV (byteAt s (2 * k)) * 16 + nibV (byteAt s (2 * k + 1))) % 256 := by omega
            unfold ReadRel
            rw [HR.out, st.out]
            rfl
        case measure => simp [intOf]; omega
      · have hn : (nibOk (byteAt s (2 * k)) && nibOk (byteAt s (2 * k + 1))) = false := by
          rw [Bool.and_eq_false_iff]
          rcases Classical.em (nibOk (byteAt s (2 * k)) = true) with h | h
          · exact .inr (by simpa using fun h' => hab ⟨h, h'⟩)
          · exact .inl (by simpa using h)
        have st := hid ((HR.out).trans (hexDec_stop s acc (2 * k) hlt2 hn))
        have HN := hid hn
        clear hab hn
        cases hA : nibOk (byteAt s (2 * k)) <;> cases hB : nibOk (byteAt s (2 * k + 1))
        case true.true => exact absurd HN.out (by rw [hA, hB]; decide)
        all_goals
          go_wp2_with (go_at_call 96; refine (nibble_any _ _ (by omega) (by omega)).mono ?_; rintro e w' ⟨rfl, hb'⟩; have hbw := hbw.trans (hb'.mono hbw.size))
          go_ret2
          exact ⟨by unfold hexOut; rw [st.out]; rfl, hbw⟩
    · have hk' : 2 * k = s.length := by omega
      have e : hexDec s = some acc := by rw [HR.out, hk']; simp [hexDec]
      have E := hid e
      have hts := run_to_string hown.bs
      clear hk' e
      go_wp2
      go_ret2
      exact ⟨by unfold hexOut; rw [E.out]; rfl, hbw⟩
end Go.Proofs.YtgfdmdikiickpaaDoor
