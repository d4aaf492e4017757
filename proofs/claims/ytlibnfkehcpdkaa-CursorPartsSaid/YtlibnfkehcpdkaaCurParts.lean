/-
  The law CursorParts: its walk.
-/
import Derived.Test.YtlibnfkehcpdkaaCurLaw
namespace Go.Proofs.Ytlibnfkehcpdkaa
open Go.RowKit

theorem part_why {s : List UInt8} {p en : Nat} {q : Int} (h0 : 0 ≤ q) (h1 : q ≤ (en : Int) - p) : Cu.why ⟨s, p, en, 0⟩ q = 0 := by
  simp [Cu.why]; omega
theorem part_of {w : World} {b : Nat} {s : List UInt8} {p en : Nat} {q : Int} (h : CurAt w b (Cu.take ⟨s, p, en, 0⟩ q)) (h0 : 0 ≤ q) (h1 : q ≤ (en : Int) - p) :
    CurAt w b ⟨s, p + q.toNat, en, 0⟩ ∧ Cu.text ⟨s, p, en, 0⟩ q = (s.drop p).take q.toNat := by
  have e := part_why (s := s) h0 h1
  refine ⟨by simpa [Cu.take, e] using h, by simp [Cu.text, e]⟩
theorem part_good {s : List UInt8} {p en : Nat} {q : Int} (h0 : 0 ≤ q) (h1 : q ≤ (en : Int) - p) : Cu.good ⟨s, p, en, 0⟩ q = true := by simp [Cu.good, part_why h0 h1]
theorem part_bad {s : List UInt8} {p en : Nat} {q : Int} (h : Cu.good ⟨s, p, en, 0⟩ q = false) (h0 : 0 ≤ q) (h1 : q ≤ (en : Int) - p) : False := by rw [part_good h0 h1] at h; cases h
theorem part_sub {w : World} {b : Nat} {s : List UInt8} {p en : Nat} {q : Int} (h : CurAt w b (Cu.sub ⟨s, p, en, 0⟩ q)) (hf : Cu.fit ⟨s, p, en, 0⟩) (h0 : 0 ≤ q) (h1 : q ≤ (en : Int) - p) :
    CurAt w b ⟨s, p, p + q.toNat, 0⟩ ∧ Cu.fit ⟨s, p, p + q.toNat, 0⟩ ∧ q ≤ ((p + q.toNat : Nat) : Int) - p ∧ p + q.toNat ≤ en := ⟨h, Cu.sub_fit hf (part_why h0 h1), by omega, by omega⟩
theorem part_end {w : World} {b : Nat} {s : List UInt8} {p : Nat} {q : Int} (h : CurAt w b ⟨s, p + q.toNat, p + q.toNat, 0⟩) : Cu.fin ⟨s, p + q.toNat, p + q.toNat, 0⟩ = 0 := by simp [Cu.fin]
set_option maxHeartbeats 1000000 in
theorem cursorParts_any (s l : List UInt8) (v : Value) (w : World) (hs : s.length ≤ 1125899906842624) (hv : Bs w w.heap.size v l) :
    Calls Try.prog 6 #[Sv s, v] w fun e w' => e = .returned (.bool true) ∧ Below w.heap.size w w' := by
  obtain ⟨A, c, rfl, hlc, hr⟩ := hv
  have HR := hid hr
  clear hr
  by_cases h60 : 60 < l.length
  · go_enter Try.func6, Try.ntmps6
    go_wp2_with fail
    refine (cworks_any _).mono ?_; rintro e w10 ⟨rfl, hw10⟩
    go_wp2_with fail
    go_ret
    exact ⟨rfl, hw10⟩
  · have f1 := Cu.start_fit hs
    go_enter Try.func6, Try.ntmps6
    go_wp2_with fail
    refine (new_any s _ hs).mono ?_; rintro e w1 ⟨b, rfl, hb, hc1, hw1⟩
    go_wp2_with fail
    refine (new_any s _ hs).mono ?_; rintro e w2 ⟨d, rfl, hd, hd2, hw2⟩
    have hc2 := CurAt.ext hc1 hw2
    have hbd : b < d := Nat.lt_of_lt_of_le (CurAt.lt hc1) hd
    have hbw := ext_trans hw1 hw2
    have hdw : w.heap.size ≤ d := by omega
    clear hc1 hw1 hw2
    go_wp2_with fail
    try simp only [string_Sv]
    have hc0 : CurAt w2 b ⟨s, 0, s.length, 0⟩ := hc2
    have hd0 : CurAt w2 d ⟨s, 0, s.length, 0⟩ := hd2
    clear hc2 hd2
    go_loopw [7, 8, 9] (fun a a' i wr => ∃ k p : Nat, k ≤ l.length ∧ p ≤ s.length ∧ i = .int .i64 (k : Int) ∧ a = Sv (s.take p) ∧ a' = Sv (s.take p) ∧ CurAt wr b ⟨s, p, s.length, 0⟩ ∧ CurAt wr d ⟨s, p, s.length, 0⟩ ∧ Below w.heap.size w wr) (fun _ _ i _ => l.length - (intOf i).toNat)
    case atStart => exact ⟨0, 0, by omega, by omega, rfl, rfl, rfl, hc0, hd0, hbw⟩
    case round =>
      clear hc0 hd0 hbw
      obtain ⟨k, p, hk, hp, rfl, rfl, rfl, hc, hd', hbw⟩ := hrel
      have ff : Cu.fit ⟨s, p, s.length, 0⟩ := ⟨hp, Nat.le_refl _, hs⟩
      by_cases hlt : k < l.length
      · obtain ⟨ad, u, hA, hadb, hu, hcell⟩ := (HR.out.below hbw).at_ hlt
        subst hA
        have hul : u = b8 l[k] := by
          have e : (b8s l)[k]? = some (b8 l[k]) := by simp [b8s, hlt]
          rw [e] at hu; injection hu with hu; exact hu.symm
        subst hul
        clear hu
        unfold b8 at hcell
        have m1 : (0 : Int) ≤ (l[k].toNat : Int) := by omega
        have m2 : (l[k].toNat : Int) ≤ 255 := by have := l[k].toNat_lt; omega
        generalize (l[k].toNat : Int) = m at hcell m1 m2
        obtain ⟨r, hr⟩ : ∃ r : Int, (s.length : Int) - p = r := ⟨_, rfl⟩
        have r0 : 0 ≤ r := by omega
        have r1 : r ≤ (s.length : Int) - p := by omega
        have HRr := hid hr
        clear hr
        go_wp2_with fail
        go_quiet ((go_at_call 22; exact left_quiet_r b _ _ _ r HRr.out hc ff))
        go_wp2_with fail
        all_goals
          refine (take_any b _ _ _ (hc.drewN nq) ff (by omega) (by omega)).mono ?_; rintro e w3 ⟨rfl, hc3, hw3⟩
          obtain ⟨hc3, ht3⟩ := part_of hc3 (by omega) (by omega)
          rw [ht3]
          clear ht3
          have B3 := hid (below_only (below_drewN hbw nq) hw3 (below_drewN hbw nq).size hb)
          have hd3 := CurAt.other (hd'.drewN nq) hw3 (by omega)
          have hle1 : p + s.length ≤ 2251799813685248 := by omega
          have htk := fun k => (List.take_add (l := s) (i := p) (j := k)).symm
          go_wp2_with fail
          refine (sub_any d _ _ _ hd3 ff (by omega) (by omega)).mono ?_
          rintro e w4 (⟨_, x, rfl, hx, hx4, hd4, hw4⟩ | ⟨hbad, _⟩)
          case inr => exact (part_bad hbad (by omega) (by omega)).elim
          obtain ⟨hx4, fx4, lx4, ly4⟩ := part_sub hx4 ff (by omega) (by omega)
          obtain ⟨hd4, _⟩ := part_of hd4 (by omega) (by omega)
          have hc4 := CurAt.other hc3 hw4 (by omega)
          have B4 := hid (below_only B3.out hw4 B3.out.size hdw)
          have hbx : b < x := Nat.lt_of_lt_of_le (CurAt.lt hc3) hx
          have hdx : d < x := Nat.lt_of_lt_of_le (CurAt.lt hd3) hx
          clear hc3 hw3 hd3 hw4
          go_wp2_with fail
          refine (take_any x _ _ _ hx4 fx4 (by omega) (by omega)).mono ?_; rintro e w5 ⟨rfl, hx5, hw5⟩
          obtain ⟨hx5, ht5⟩ := part_of hx5 (by omega) (by omega)
          rw [ht5]
          clear ht5
          have hc5 := CurAt.other hc4 hw5 (by omega)
          have hd5 := CurAt.other hd4 hw5 (by omega)
          have B5 := hid (below_only B4.out hw5 B4.out.size (by omega))
          clear hw5 hx4 hc4 hd4
          go_wp2_with fail
          refine (end_any x _ _ hx5 ⟨Nat.le_refl _, fx4.le2, hs⟩).mono ?_; rintro e w6 ⟨rfl, n6, rfl⟩
          rw [part_end hx5]
          go_wp2_with fail
          go_roundw
          case rel => exact ⟨k + 1, _, by omega, by omega, by go_num, rfl, rfl, hc5.drewN _, hd5.drewN _, below_drewN B5.out _⟩
          case measure => simp [intOf]; omega
      · obtain rfl : k = l.length := by omega
        obtain ⟨r, hr⟩ : ∃ r : Int, (s.length : Int) - p = r := ⟨_, rfl⟩
        have r0 : 0 ≤ r := by omega
        have r1 : r ≤ (s.length : Int) - p := by omega
        have r2 := hid (show p + r.toNat = s.length by omega)
        have HRr := hid hr
        clear hr
        go_wp2_with fail
        refine (left_any_r b _ _ r HRr.out hc ff).mono ?_; rintro e w3 ⟨rfl, n3, rfl⟩
        go_wp2_with fail
        refine (take_any b _ _ _ (hc.drewN n3) ff (by omega) (by omega)).mono ?_; rintro e w4 ⟨rfl, hc4, hw4⟩
        obtain ⟨hc4, ht4⟩ := part_of hc4 (by omega) (by omega)
        rw [ht4]
        clear ht4
        rw [r2.out] at hc4
        have hd4 := CurAt.other (hd'.drewN n3) hw4 (by omega)
        have B4 := hid (below_only (below_drewN hbw n3) hw4 (below_drewN hbw n3).size hb)
        have hle1 : p + s.length ≤ 2251799813685248 := by omega
        have htk : s.take p ++ (s.drop p).take r.toNat = s := by rw [← List.take_add, r2.out, List.take_length]
        have hlr : p + r.toNat ≤ 1125899906842624 := by have := r2.out; omega
        clear hw4
        go_wp2_with fail
        refine (left_any_r d _ _ r HRr.out hd4 ff).mono ?_; rintro e w5 ⟨rfl, n5, rfl⟩
        go_wp2_with fail
        refine (take_any d _ _ _ (hd4.drewN n5) ff (by omega) (by omega)).mono ?_; rintro e w6 ⟨rfl, hd6, hw6⟩
        obtain ⟨hd6, ht6⟩ := part_of hd6 (by omega) (by omega)
        rw [ht6]
        clear ht6
        rw [r2.out] at hd6
        have hc6 := CurAt.other (hc4.drewN n5) hw6 (by omega)
        have B6 := hid (below_only (below_drewN B4.out n5) hw6 (below_drewN B4.out n5).size hdw)
        have f6 : Cu.fit ⟨s, s.length, s.length, 0⟩ := ⟨Nat.le_refl _, Nat.le_refl _, hs⟩
        have e6 := hid (show Cu.fin ⟨s, s.length, s.length, 0⟩ = 0 by simp [Cu.fin])
        clear hw6
        go_wp2_with fail
        refine (end_any b _ _ hc6 f6).mono ?_; rintro e w7 ⟨rfl, n7, rfl⟩
        rw [e6.out]
        go_wp2_with fail
        refine (end_any d _ _ (hd6.drewN n7) f6).mono ?_; rintro e w8 ⟨rfl, n8, rfl⟩
        rw [e6.out]
        go_wp2_with fail
        refine (cworks_any _).mono ?_; rintro e w9 ⟨rfl, hw9⟩
        go_wp2_with fail
        go_ret
        exact ⟨rfl, (below_drewN B6.out _).trans (hw9.mono (below_drewN B6.out _).size)⟩
end Go.Proofs.Ytlibnfkehcpdkaa
