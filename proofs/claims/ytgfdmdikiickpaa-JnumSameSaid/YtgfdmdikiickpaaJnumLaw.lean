/-
  The laws of chapter 11: works, JnumWhole, JnumReads.
-/
import Derived.Test.YtgfdmdikiickpaaJnumV
import Derived.Test.YtgfdmdikiickpaaJnumU
import Derived.Test.YtgfdmdikiickpaaSt
namespace Go.Proofs.Ytgfdmdikiickpaa
open Go.RowKit

theorem jnread0 {s : List UInt8} {c' : Cu} (h : RdF numR (Cu.start s) c') : c'.code = (numR s).1 ∧ ((numR s).1 = 0 → c' = ⟨s, (numR s).2, s.length, 0⟩) := by
  obtain ⟨a, b⟩ := h.good rfl
  rw [start_ahead] at a b
  refine ⟨a, fun hz => ?_⟩
  rw [b hz]
  simp [Cu.start]
theorem jnfit {s : List UInt8} (h : s.length ≤ 1125899906842624) : (Cu.start s).fit := ⟨Nat.zero_le _, Nat.le_refl _, h⟩
theorem jtext0 (s : List UInt8) : jtext (Cu.start s) = if (numR s).1 = 0 then s.take (numR s).2 else [] := by
  unfold jtext
  rw [start_ahead]
  by_cases h : (numR s).1 = 0
  · rw [if_pos ⟨rfl, h⟩, if_pos h]
  · rw [if_neg (fun q => h q.2), if_neg h]
set_option maxRecDepth 100000 in
set_option maxHeartbeats 4000000 in
theorem jnworks_any (w : World) :
    Calls Try.prog 6 #[] w fun e w' => e = .returned (.bool true) ∧ Below w.heap.size w w' := by
  have W1 := hid (show jOut [45, 49, 46, 53, 48, 101, 43, 49] = .tuple #[.int .i64 (-15), .int .i64 0] by unfold jOut; rw [show wholeJ [45, 49, 46, 53, 48, 101, 43, 49] = (-15, 0) by decide +kernel])
  have W2 := hid (show jOut [49, 53, 101, 45, 49] = .tuple #[.int .i64 0, .int .i64 7] by unfold jOut; rw [show wholeJ [49, 53, 101, 45, 49] = (0, 7) by decide +kernel])
  have W3 := hid (show jOut [49, 101, 49, 57] = .tuple #[.int .i64 0, .int .i64 4] by unfold jOut; rw [show wholeJ [49, 101, 49, 57] = (0, 4) by decide +kernel])
  have W4 := hid (show jOut [48, 101, 45, 57, 57, 57, 57, 57, 57, 57, 57, 57, 57, 57, 57, 57, 57, 57, 57, 57, 57, 57, 57] = .tuple #[.int .i64 0, .int .i64 0] by unfold jOut; rw [show wholeJ [48, 101, 45, 57, 57, 57, 57, 57, 57, 57, 57, 57, 57, 57, 57, 57, 57, 57, 57, 57, 57, 57, 57] = (0, 0) by decide +kernel])
  have T1 := hid (show jtext (Cu.start [45, 49, 46, 53, 48, 101, 43, 49, 120]) = [45, 49, 46, 53, 48, 101, 43, 49] by rw [jtext0, show numR [45, 49, 46, 53, 48, 101, 43, 49, 120] = (0, 8) by decide +kernel]; rfl)
  have T2 := hid (show jtext (Cu.start [49, 46]) = [] by rw [jtext0, show (numR [49, 46]).1 = 1 by decide +kernel]; rfl)
  go_enter Try.func6, Try.ntmps6
  go_wp2_with fail
  refine (new_any [45, 49, 46, 53, 48, 101, 43, 49, 120] _ (by decide)).mono ?_; rintro e w1 ⟨a, rfl, ha, hca1, hw1⟩
  have A1 := hid hca1
  have B1 := hid hw1
  clear hca1 hw1
  go_wp2_with fail
  refine (jread_any a _ _ A1.out (jnfit (by decide)) (by decide)).mono ?_; rintro e w2 ⟨ca, rfl, hra, hc2, hg2⟩
  rw [T1.out]
  obtain ⟨x1, x2⟩ := jnread0 hra
  rw [show numR [45, 49, 46, 53, 48, 101, 43, 49, 120] = (0, 8) by decide +kernel] at x1 x2
  obtain rfl := x2 rfl
  have A2 := hid hc2
  have B2 := hid (below_only B1.out hg2 B1.out.size ha)
  clear x1 x2 hra hc2 hg2 A1 B1 T1
  go_wp2_with fail
  refine (jwhole_any [45, 49, 46, 53, 48, 101, 43, 49] _ (by decide)).mono ?_; rintro e w3 ⟨rfl, hw3⟩
  rw [W1.out]
  have A3 := hid (A2.out.ext hw3)
  have B3 := hid (B2.out.trans (hw3.mono B2.out.size))
  clear hw3 A2 B2 W1
  go_wp2_with fail
  refine (jwhole_any [49, 53, 101, 45, 49] _ (by decide)).mono ?_; rintro e w4 ⟨rfl, hw4⟩
  rw [W2.out]
  have A4 := hid (A3.out.ext hw4)
  have B4 := hid (B3.out.trans (hw4.mono B3.out.size))
  clear hw4 A3 B3 W2
  go_wp2_with fail
  refine (jwhole_any [49, 101, 49, 57] _ (by decide)).mono ?_; rintro e w5 ⟨rfl, hw5⟩
  rw [W3.out]
  have A5 := hid (A4.out.ext hw5)
  have B5 := hid (B4.out.trans (hw5.mono B4.out.size))
  clear hw5 A4 B4 W3
  go_wp2_with fail
  refine (jwhole_any [48, 101, 45, 57, 57, 57, 57, 57, 57, 57, 57, 57, 57, 57, 57, 57, 57, 57, 57, 57, 57, 57, 57] _ (by decide)).mono ?_; rintro e w6 ⟨rfl, hw6⟩
  rw [W4.out]
  have A6 := hid (A5.out.ext hw6)
  have B6 := hid (B5.out.trans (hw6.mono B5.out.size))
  clear hw6 A5 B5 W4
  go_wp2_with fail
  refine (new_any [49, 46] _ (by decide)).mono ?_; rintro e w7 ⟨g, rfl, hg, hcg7, hw7⟩
  have A7 := hid (A6.out.ext hw7)
  have hag : a < g := Nat.lt_of_lt_of_le A6.out.lt hg
  have B7 := hid (B6.out.trans (hw7.mono B6.out.size))
  have G7 := hid hcg7
  have hgw : w.heap.size ≤ g := Nat.le_trans B6.out.size hg
  clear hcg7 hw7 hg A6 B6
  go_wp2_with fail
  refine (left_any_r a _ _ 1 (by decide) A7.out ⟨by decide, by decide, by decide⟩).mono ?_; rintro e w9 ⟨rfl, n9, rfl⟩
  go_wp2_with fail
  refine (jread_any g _ _ (G7.out.ext (ext_drewN _ n9)) (jnfit (by decide)) (by decide)).mono ?_; rintro e w8 ⟨cg, rfl, hrg, hc8, hg8⟩
  rw [T2.out]
  obtain ⟨y1, _⟩ := jnread0 hrg
  rw [show (numR [49, 46]).1 = 1 by decide +kernel] at y1
  have G8 := hid hc8
  have B8 := hid (below_only (below_drewN B7.out n9) hg8 (below_drewN B7.out n9).size hgw)
  clear hrg hc8 hg8 A7 B7 G7
  go_wp2_with fail
  refine (err_any g _ _ G8.out).mono ?_; rintro e w9 ⟨rfl, rfl⟩
  rw [y1]
  go_wp2_with fail
  go_ret
  exact ⟨rfl, B8.out⟩
set_option maxRecDepth 100000 in
set_option maxHeartbeats 4000000 in
theorem jnumWhole_any (s : List UInt8) (w : World) :
    Calls Try.prog 3 #[Sv s] w fun e w' => e = .returned (.bool true) ∧ Below w.heap.size w w' := by
  by_cases q300 : 300 < (s.length : Int)
  · go_enter Try.func3, Try.ntmps3
    go_wp2_with fail
    refine (jnworks_any _).mono ?_; rintro e w10 ⟨rfl, hw10⟩
    go_wp2_with fail
    go_ret
    exact ⟨rfl, hw10⟩
  · go_enter Try.func3, Try.ntmps3
    go_wp2_with fail
    refine (jwhole_any s _ (by omega)).mono ?_; rintro e w1 ⟨rfl, hw1⟩
    have B1 := hid hw1
    clear hw1
    unfold jOut
    go_wp2_with fail
    refine (rwhole_any s _ (by omega)).mono ?_; rintro e w2 ⟨rfl, hw2⟩
    have B2 := hid (B1.out.trans (hw2.mono B1.out.size))
    clear hw2 B1
    unfold jOut
    have i0 : ((wholeJ s).1 == (wholeJ s).1) = true := by simp
    have i1 : ((wholeJ s).2 == (wholeJ s).2) = true := by simp
    generalize (wholeJ s).1 = X at i0 ⊢
    generalize (wholeJ s).2 = Y at i1 ⊢
    go_wp2_with fail
    refine (jnworks_any _).mono ?_; rintro e w10 ⟨rfl, hw10⟩
    go_wp2_with fail
    go_ret
    exact ⟨rfl, B2.out.trans (hw10.mono B2.out.size)⟩
/-- The cursors beside each other. -/
structure JJ (c d : Cu) : Prop where
  fc : c.fit
  fd : d.fit
  sc : c.s.length ≤ 300
  sd : d.s.length ≤ 300
  code : d.code = c.code
  same : c.code = 0 → c = d
theorem JJ.step {c d c' d' : Cu} (h : JJ c d) (hc : RdF numR c c') (hd : RdF numR d d') : JJ c' d' ∧ jtext c = jtext d := by
  by_cases h0 : c.code = 0
  · obtain rfl := h.same h0
    obtain ⟨a1, a2⟩ := hc.good h0
    obtain ⟨b1, b2⟩ := hd.good h0
    exact ⟨⟨hc.fit, hd.fit, by rw [hc.s]; exact h.sc, by rw [hd.s]; exact h.sc, by rw [a1, b1], fun hz => by rw [a2 (a1 ▸ hz), b2 (a1 ▸ hz)]⟩, rfl⟩
  · have e1 := hc.bad h0
    have e2 := hd.bad (by rw [h.code]; exact h0)
    subst e1 e2
    refine ⟨h, ?_⟩
    unfold jtext
    rw [if_neg (fun q => h0 q.1), if_neg (fun q => h0 (by rw [← h.code]; exact q.1))]
def JRel (w : World) (b g : Nat) (i : Value) (wr : World) : Prop :=
  ∃ (k : Nat) (c d : Cu), k ≤ 3 ∧ i = .int .i64 (k : Int) ∧ JJ c d ∧ Sd w wr b g c d
set_option maxRecDepth 100000 in
set_option maxHeartbeats 4000000 in
theorem jnumReads_any (s : List UInt8) (w : World) :
    Calls Try.prog 5 #[Sv s] w fun e w' => e = .returned (.bool true) ∧ Below w.heap.size w w' := by
  by_cases q300 : 300 < (s.length : Int)
  · go_enter Try.func5, Try.ntmps5
    go_wp2_with fail
    refine (jnworks_any _).mono ?_; rintro e w10 ⟨rfl, hw10⟩
    go_wp2_with fail
    go_ret
    exact ⟨rfl, hw10⟩
  have f1 := jnfit (s := s) (by omega)
  go_enter Try.func5, Try.ntmps5
  go_wp2_with fail
  refine (new_any s _ (by omega)).mono ?_; rintro e w1 ⟨b, rfl, hb, hc1, hw1⟩
  go_wp2_with fail
  refine (rnew_any s _).mono ?_; rintro e w2 ⟨rfl, hw2⟩
  have hc2 := CurAt.ext hc1 hw2
  have hbw := ext_trans hw1 hw2
  have hrel0 : JRel w b w2.heap.size (.int .i64 0) (w2.alloc (.cells #[Sv (Cu.start s).s, .int .i64 (Cu.start s).pos, .int .i64 (Cu.start s).en, .int .i64 (Cu.start s).code] 32)) :=
    ⟨0, _, _, by omega, rfl, ⟨f1, f1, by show s.length ≤ 300; omega, by show s.length ≤ 300; omega, rfl, fun _ => rfl⟩, hc2.alloc _, Blk.new w2 _ _, hbw.alloc hbw.size _, hb, hbw.size, Nat.ne_of_lt hc2.lt⟩
  clear hc1 hw1 hw2 hc2 hbw
  unfold agg
  go_wp2_with fail
  generalize w2.heap.size = g at hrel0 ⊢
  go_loopw [5] (fun i wr => JRel w b g i wr) (fun i _ => 3 - (intOf i).toNat)
  case atStart => exact hrel0
  case round =>
    clear hrel0
    obtain ⟨k, c, d, hk, rfl, hj, hS⟩ := hrel
    have hS := hid hS
    by_cases hlt : k < 3
    · go_wp2_with fail
      refine (jread_any b c _ hS.out.cur hj.fc (by have := hj.sc; omega)).mono ?_; rintro e w4 ⟨c', rfl, hr4, hc4, hg4⟩
      have S4 := hS.out.move hc4 hg4
      obtain ⟨p0, p1, p2, p3, u0, u1, u2, u3⟩ := blk4 S4.doc
      have hS4 := hid S4
      clear hc4 hg4 S4
      go_wp2_with fail
      refine (rjread_any d _ hj.fd (by have := hj.sd; omega)).mono ?_; rintro e w5 ⟨d', rfl, hr5, hw5⟩
      obtain ⟨hj', ht⟩ := hj.step hr4 hr5
      rw [← ht]
      have S5 := hS4.out.ext hw5
      obtain ⟨p0, p1, p2, p3, u0, u1, u2, u3⟩ := blk4 S5.doc
      have S6 := S5.put d'
      have hS6 := hid S6
      clear hw5 S5 S6 hr4 hr5 hS hS4 ht
      obtain ⟨U, hU⟩ : ∃ U, jtext c = U := ⟨_, rfl⟩
      rw [hU]
      clear hU hj
      unfold agg
      go_wp2_with fail
      obtain ⟨p0, p1, p2, p3, u0, u1, u2, u3⟩ := blk4 hS6.out.doc
      have i0 : (U == U) = true := by simp
      have i1 : (!(U == U)) = false := by simp
      by_cases hz : c'.code = 0
      · obtain rfl := hj'.same hz
        have c0 : (c'.code == 0) = true := by simpa using hz
        have HJ := hid hj'
        clear hz hj'
        go_quiet ((first
          | (go_at_call 14; exact err_quiet b _ _ _ hS6.out.cur)
          | (go_at_call 15; exact at_quiet b _ _ _ hS6.out.cur)))
        go_wp2_with fail
        go_roundw
        case rel => exact ⟨k + 1, c', c', by omega, by go_num, HJ.out, hS6.out.drewN _⟩
        case measure => simp [intOf] <;> omega
      · have c0 : (c'.code == 0) = false := by simpa using hz
        have c1 : (c'.code != d'.code) = false := by rw [hj'.code]; simp
        have c2 : (d'.code == 0) = false := by rw [hj'.code]; exact c0
        have HJ := hid hj'
        clear hz hj'
        go_quiet ((first
          | (go_at_call 14; exact err_quiet b _ _ _ hS6.out.cur)
          | (go_at_call 15; exact at_quiet b _ _ _ hS6.out.cur)))
        go_wp2_with fail
        go_roundw
        case rel => exact ⟨k + 1, c', d', by omega, by go_num, HJ.out, hS6.out.drewN _⟩
        case measure => simp [intOf] <;> omega
    · have HB := hid hS.out.bel
      clear hS
      go_wp2_with fail
      refine (jnworks_any _).mono ?_; rintro e w10 ⟨rfl, hw10⟩
      go_wp2_with fail
      go_ret
      exact ⟨rfl, HB.out.trans (hw10.mono HB.out.size)⟩
end Go.Proofs.Ytgfdmdikiickpaa
