/-
  The laws of chapter 1: walks.
-/
import Derived.Test.YtlibnfkehcpdkaaCurRef
namespace Go.Proofs.Ytlibnfkehcpdkaa
open Go.RowKit

set_option maxRecDepth 100000 in
set_option maxHeartbeats 1000000 in
theorem cworks_any (w : World) :
    Calls Try.prog 20 #[] w fun e w' => e = .returned (.bool true) ∧ Below w.heap.size w w' := by
  go_enter Try.func20, Try.ntmps20
  go_wp2_with fail
  refine (new_any [97, 98, 99] _ (by decide)).mono ?_; rintro e w1 ⟨b, rfl, hb, hc1, hw1⟩
  have hf1 := Cu.start_fit (s := [97, 98, 99]) (by decide)
  go_wp2_with fail
  refine (byte_any b _ _ hc1 hf1).mono ?_; rintro e w2 ⟨rfl, hc2, hw2⟩
  have B2 := hid (below_only hw1 hw2 hw1.size hb)
  have hf2 := Cu.take_fit hf1 1
  clear hc1 hw1 hw2
  go_wp2_with fail
  refine (take_any b _ 3 _ hc2 hf2 (by decide) (by decide)).mono ?_; rintro e w3 ⟨rfl, hc3, hw3⟩
  have B3 := hid (below_only B2.out hw3 B2.out.size hb)
  have hf3 := Cu.take_fit hf2 3
  clear hc2 hw3
  go_wp2_with fail
  refine (new_any [97, 98, 99, 100] _ (by decide)).mono ?_; rintro e w4 ⟨d, rfl, hd, hd4, hw4⟩
  have B4 := hid (B3.out.trans (hw4.mono B3.out.size))
  have hc4 := Blk.below hc3 hw4 (CurAt.lt hc3)
  have ff := Cu.start_fit (s := [97, 98, 99, 100]) (by decide)
  have hdw : w.heap.size ≤ d := Nat.le_trans B3.out.size hd
  have hbd := CurAt.lt hc3
  clear hc3 hw4
  go_wp2_with fail
  refine (sub_any d _ 2 _ hd4 ff (by decide) (by decide)).mono ?_
  rintro e w5 (⟨_, x, rfl, hx, hx5, hd5, hw5⟩ | ⟨hbad, _⟩)
  case inr => exact absurd hbad (by decide)
  have B5 := hid (below_only B4.out hw5 B4.out.size hdw)
  have hc5 := Blk.grown hc4 hw5 (by intro h; injection h with h; omega)
  have ff5 := Cu.take_fit ff 2
  have fx5 : ((Cu.start [97, 98, 99, 100]).sub 2).fit := Cu.sub_fit ff (by decide)
  go_wp2_with fail
  refine (take_any x _ 2 _ hx5 fx5 (by decide) (by decide)).mono ?_; rintro e w6 ⟨rfl, hx6, hw6⟩
  rw [show (Cu.start [97, 98, 99]).byte = 97 by decide +kernel, show ((Cu.start [97, 98, 99]).take 1).text 3 = [] by decide +kernel, show ((Cu.start [97, 98, 99, 100]).sub 2).text 2 = [97, 98] by decide +kernel]
  have B6 := hid (below_only B5.out hw6 B5.out.size (Nat.le_trans B4.out.size hx))
  have hc6 := Blk.grown hc5 hw6 (by intro h; injection h with h; have := CurAt.lt hc4; omega)
  have hd6 := Blk.grown hd5 hw6 (by intro h; injection h with h; have := CurAt.lt hd4; omega)
  have fx6 := Cu.take_fit fx5 2
  clear hc5 hd5 hw6 hx5 hw5 hc4 hd4
  go_wp2_with fail
  refine (fail_nil 1 _).mono ?_; rintro e w7 ⟨rfl, rfl⟩
  go_wp2_with fail
  refine (err_any b _ _ hc6).mono ?_; rintro e w8 ⟨rfl, rfl⟩
  rw [show (((Cu.start [97, 98, 99]).take 1).take 3).code = 1 by decide +kernel]
  go_wp2_with fail
  refine (at_any b _ _ hc6).mono ?_; rintro e w8 ⟨rfl, rfl⟩
  rw [show (((Cu.start [97, 98, 99]).take 1).take 3).pos = 1 by decide +kernel]
  go_wp2_with fail
  refine (left_any b _ _ hc6 hf3).mono ?_; rintro e w8 ⟨rfl, n1, rfl⟩
  rw [show (((((Cu.start [97, 98, 99]).take 1).take 3).en : Int) - (((Cu.start [97, 98, 99]).take 1).take 3).pos) = 2 by decide +kernel]
  go_wp2_with fail
  refine (end_any x _ _ (CurAt.drewN hx6 _) fx6).mono ?_; rintro e w8 ⟨rfl, n2, rfl⟩
  rw [show (((Cu.start [97, 98, 99, 100]).sub 2).take 2).fin = 0 by decide +kernel]
  go_wp2_with fail
  refine (at_any d _ _ (CurAt.drewN hd6 _)).mono ?_; rintro e w8 ⟨rfl, rfl⟩
  rw [show ((Cu.start [97, 98, 99, 100]).take 2).pos = 2 by decide +kernel]
  go_wp2_with fail
  refine (end_any d _ _ (CurAt.drewN hd6 _) ff5).mono ?_; rintro e w8 ⟨rfl, n3, rfl⟩
  rw [show ((Cu.start [97, 98, 99, 100]).take 2).fin = 2 by decide +kernel]
  go_wp2_with fail
  refine (end_nil _).mono ?_; rintro e w8 ⟨rfl, rfl⟩
  go_wp2_with fail
  refine (sub_nil 0 _).mono ?_; rintro e w8 ⟨rfl, hw8⟩
  go_wp2_with fail
  refine (take_nil 0 _).mono ?_; rintro e w9 ⟨rfl, hw9⟩
  go_wp2_with fail
  go_ret
  exact ⟨rfl, (below_drewN B6.out _).trans ((ext_trans hw8 hw9).mono B6.out.size)⟩

set_option maxHeartbeats 1000000 in
theorem cursorStays_any (s : List UInt8) (n code : Int) (w : World) (hs : s.length ≤ 1125899906842624) (n0 : -9223372036854775808 ≤ n) (n1 : n ≤ 9223372036854775807) :
    Calls Try.prog 8 #[Sv s, .int .i64 n, .int .i64 code] w fun e w' => e = .returned (.bool true) ∧ Below w.heap.size w w' := by
  by_cases hg : 0 ≤ n ∧ n ≤ s.length ∧ code ≠ 0
  · obtain ⟨g1, g2, g3⟩ := hg
    have hcd : (code == 0) = false := by simpa using g3
    have hw : (Cu.start s).why n = 0 := by simp [Cu.why, Cu.start]; omega
    have f1 := Cu.start_fit hs
    have ht : (Cu.start s).take n = ⟨s, n.toNat, s.length, 0⟩ := by simp [Cu.take, hw]; simp [Cu.start]
    have f2 : Cu.fit ⟨s, n.toNat, s.length, 0⟩ := by rw [← ht]; exact Cu.take_fit f1 n
    have f3 : Cu.fit ⟨s, n.toNat, s.length, code⟩ := ⟨f2.le1, f2.le2, f2.le3⟩
    have HT := hid ht
    have hn := hid (show ((n.toNat : Nat) : Int) = n by omega)
    have G3 := hid g3
    clear hw ht g3
    go_enter Try.func8, Try.ntmps8
    go_wp2_with fail
    refine (new_any s _ hs).mono ?_; rintro e w1 ⟨b, rfl, hb, hc1, hw1⟩
    go_wp2_with fail
    refine (take_any b _ n _ hc1 f1 n0 n1).mono ?_; rintro e w2 ⟨rfl, hc2, hw2⟩
    rw [HT.out] at hc2
    have B2 := hid (below_only hw1 hw2 hw1.size hb)
    clear hc1 hw1 hw2
    go_wp2_with fail
    refine (fail_any b _ code _ hc2).mono ?_; rintro e w3 ⟨rfl, hc3, hw3⟩
    rw [show (Cu.fail ⟨s, n.toNat, s.length, 0⟩ code) = ⟨s, n.toNat, s.length, code⟩ by simp [Cu.fail]] at hc3
    have B3 := hid (below_only B2.out hw3 B2.out.size hb)
    clear hc2 hw3
    go_wp2_with fail
    refine (fail_any b _ 2 _ hc3).mono ?_; rintro e w4 ⟨rfl, hc4, hw4⟩
    rw [show (Cu.fail ⟨s, n.toNat, s.length, code⟩ 2) = ⟨s, n.toNat, s.length, code⟩ by simp [Cu.fail, G3.out]] at hc4
    have B4 := hid (below_only B3.out hw4 B3.out.size hb)
    clear hc3 hw4
    go_wp2_with fail
    refine (peek_any b _ _ hc4 f3).mono ?_; rintro e w5 ⟨rfl, k1, rfl⟩
    rw [show Cu.peek ⟨s, n.toNat, s.length, code⟩ = 0 by simp [Cu.peek, G3.out], show Cu.peeks ⟨s, n.toNat, s.length, code⟩ = false by simp [Cu.peeks, G3.out]]
    have hc5 := CurAt.drewN hc4 k1
    clear hc4
    go_wp2_with fail
    refine (byte_any b _ _ hc5 f3).mono ?_; rintro e w6 ⟨rfl, hc6, hw6⟩
    rw [show Cu.byte ⟨s, n.toNat, s.length, code⟩ = 0 by simp [Cu.byte, Cu.why, G3.out]]
    rw [show Cu.take ⟨s, n.toNat, s.length, code⟩ 1 = ⟨s, n.toNat, s.length, code⟩ by simp [Cu.take, Cu.why, G3.out]] at hc6
    have B6 := hid (below_only (below_drewN B4.out k1) hw6 (below_drewN B4.out k1).size hb)
    clear hc5 hw6
    go_wp2_with fail
    refine (take_any b _ 0 _ hc6 f3 (by decide) (by decide)).mono ?_; rintro e w7 ⟨rfl, hc7, hw7⟩
    rw [show Cu.text ⟨s, n.toNat, s.length, code⟩ 0 = [] by simp [Cu.text, Cu.why, G3.out]]
    rw [show Cu.take ⟨s, n.toNat, s.length, code⟩ 0 = ⟨s, n.toNat, s.length, code⟩ by simp [Cu.take, Cu.why, G3.out]] at hc7
    have B7 := hid (below_only B6.out hw7 B6.out.size hb)
    clear hc6 hw7
    go_wp2_with fail
    refine (sub_any b _ 0 _ hc7 f3 (by decide) (by decide)).mono ?_
    rintro e w8 (⟨hbad, _⟩ | ⟨_, rfl, hc8, hw8⟩)
    · exact absurd hbad (by simp [Cu.good, Cu.why, G3.out])
    rw [show Cu.take ⟨s, n.toNat, s.length, code⟩ 0 = ⟨s, n.toNat, s.length, code⟩ by simp [Cu.take, Cu.why, G3.out]] at hc8
    have B8 := hid (below_only B7.out hw8 B7.out.size hb)
    clear hc7 hw8
    go_wp2_with fail
    refine (at_any b _ _ hc8).mono ?_; rintro e w9 ⟨rfl, rfl⟩
    simp only
    rw [hn.out]
    go_wp2_with fail
    refine (err_any b _ _ hc8).mono ?_; rintro e w9 ⟨rfl, rfl⟩
    go_wp2_with fail
    refine (end_any b _ _ hc8 f3).mono ?_; rintro e w9 ⟨rfl, k2, rfl⟩
    rw [show Cu.fin ⟨s, n.toNat, s.length, code⟩ = code by simp [Cu.fin, G3.out]]
    go_wp2_with fail
    refine (cworks_any _).mono ?_; rintro e w10 ⟨rfl, hw10⟩
    go_wp2_with fail
    go_ret
    exact ⟨rfl, (below_drewN B8.out k2).trans (hw10.mono (below_drewN B8.out k2).size)⟩
  · have hcw : Calls Try.prog 8 #[Sv s, .int .i64 n, .int .i64 code] w fun e w' => e = .returned (.bool true) ∧ Below w.heap.size w w' := by
      by_cases h1 : n < 0
      · clear hg
        go_enter Try.func8, Try.ntmps8
        go_wp2_with fail
        refine (new_any s _ hs).mono ?_; rintro e w1 ⟨b, rfl, hb, hc1, hw1⟩
        go_wp2_with fail
        refine (cworks_any _).mono ?_; rintro e w10 ⟨rfl, hw10⟩
        go_wp2_with fail
        go_ret
        exact ⟨rfl, ext_trans hw1 hw10⟩
      · by_cases h2 : (s.length : Int) < n
        · clear hg
          go_enter Try.func8, Try.ntmps8
          go_wp2_with fail
          refine (new_any s _ hs).mono ?_; rintro e w1 ⟨b, rfl, hb, hc1, hw1⟩
          go_wp2_with fail
          refine (cworks_any _).mono ?_; rintro e w10 ⟨rfl, hw10⟩
          go_wp2_with fail
          go_ret
          exact ⟨rfl, ext_trans hw1 hw10⟩
        · have h3 : (code == 0) = true := by
            rw [beq_iff_eq]
            rcases Classical.em (code = 0) with h | h
            · exact h
            · exact absurd ⟨by omega, by omega, h⟩ hg
          clear hg
          go_enter Try.func8, Try.ntmps8
          go_wp2_with fail
          refine (new_any s _ hs).mono ?_; rintro e w1 ⟨b, rfl, hb, hc1, hw1⟩
          go_wp2_with fail
          refine (cworks_any _).mono ?_; rintro e w10 ⟨rfl, hw10⟩
          go_wp2_with fail
          go_ret
          exact ⟨rfl, ext_trans hw1 hw10⟩
    exact hcw
end Go.Proofs.Ytlibnfkehcpdkaa
