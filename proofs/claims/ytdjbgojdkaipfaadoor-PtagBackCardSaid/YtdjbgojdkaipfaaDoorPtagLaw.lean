/-
  The laws of chapter 16: works, PtagReads.
-/
import Derived.Test.YtdjbgojdkaipfaaDoorPtagPut
namespace Go.Proofs.YtdjbgojdkaipfaaDoor
open Go.RowKit

/-- How memory stands in works. -/
structure Wk (w wr : World) (d gx gy : Nat) (cd : Cu) : Prop where
  n : NoneIs wr
  t : Blk wr w.heap.size 30 #[.int .i64 1, .int .i64 2]
  x : Blk wr gx 30 #[.int .i64 1, .int .i64 2]
  y : Blk wr gy 30 #[.int .i64 0, .int .i64 0]
  cd : CurAt wr d cd
  bel : Below w.heap.size w wr
theorem Wk.ext {w wr w' : World} {d gx gy : Nat} {cd : Cu} (h : Wk w wr d gx gy cd) (k : Below wr.heap.size wr w') : Wk w w' d gx gy cd :=
  ⟨h.n.ext k, Blk.below h.t k (Blk.lt h.t), Blk.below h.x k (Blk.lt h.x), Blk.below h.y k (Blk.lt h.y), h.cd.ext k, h.bel.trans (k.mono h.bel.size)⟩
set_option maxRecDepth 100000 in
set_option maxHeartbeats 4000000 in
theorem tworks_any (w : World) (hN : NoneIs w) :
    Calls Tryd.prog 6 #[] w fun e w' => e = .returned (.bool true) ∧ Below w.heap.size w w' := by
  have HN := hid hN
  clear hN
  go_enter Tryd.func6, Tryd.ntmps6
  go_wp2_with fail
  refine (new_any [10] _ (by decide)).mono ?_; rintro e w1 ⟨b, rfl, hb1, hc1, hw1⟩
  go_wp2_with fail
  refine (new_any [11] _ (by decide)).mono ?_; rintro e w2 ⟨d, rfl, hd2, hcd2, hw2⟩
  have hT0 := Blk.new w 30 #[.int .i64 1, .int .i64 2]
  have hb12 := ext_trans hw1 hw2
  have hb02 := ext_trans (ext_alloc w _) hb12
  have hT2 := hid (Blk.below hT0 hb12 (Blk.lt hT0))
  have hN2 := hid (HN.out.ext hb02)
  have hcb2 := hid (CurAt.ext hc1 hw2)
  have hne : b ≠ d := Nat.ne_of_lt (Nat.lt_of_lt_of_le hc1.lt hd2)
  have hB2 := hid hb02
  have HCD2 := hid hcd2
  have hbw : w.heap.size < b := Nat.lt_of_lt_of_le (by simp) hb1
  have hdw : w.heap.size < d := Nat.lt_of_lt_of_le (Blk.lt hT2.out |> fun h => Nat.lt_of_lt_of_le (Blk.lt (Blk.below hT0 hw1 (Blk.lt hT0))) (Nat.le_refl _)) hd2
  clear hT0 hb12 hb02 hw1 hw2 hc1 hcd2
  go_wp2_with fail
  refine (tag_any b _ _ hN2.out hcb2.out (Cu.start_fit (by decide))).mono ?_; rintro e w3 ⟨c3, n3, i3, rfl, hv3, hq3, hg3, hc3, ho3⟩
  obtain ⟨rfl, rfl⟩ := hg3 rfl
  rw [show tagR (Cu.start [10]).ahead = (0, 1, 1, 2) by decide +kernel] at hv3 ⊢
  simp only []
  have hN3 := hid (NoneIs.grown hN2.out hcb2.out ho3)
  have hT3 := hid (Blk.grown hT2.out ho3 (by intro e; injection e with e; omega))
  have hcd3 := hid (HCD2.out.other ho3 hne.symm)
  have hB3 := hid (below_only hB2.out ho3 hB2.out.size (Nat.le_of_lt hbw))
  clear hv3 hg3 hc3 ho3 hq3
  go_wp2_with fail
  refine (tag_any d _ _ hN3.out hcd3.out (Cu.start_fit (by decide))).mono ?_; rintro e w4 ⟨c4, n4, i4, rfl, hv4, hq4, hg4, hc4, ho4⟩
  obtain ⟨rfl, rfl⟩ := hg4 rfl
  rw [show tagR (Cu.start [11]).ahead = (14, 0, 0, 0) by decide +kernel] at hv4 ⊢
  have hcode4 := (hv4.good rfl).1
  simp only []
  have hN4 := hid (NoneIs.grown hN3.out hcd3.out ho4)
  have hT4 := hid (Blk.grown hT3.out ho4 (by intro e; injection e with e; omega))
  have hB4 := hid (below_only hB3.out ho4 hB3.out.size (Nat.le_of_lt hdw))
  have hcd4 := hid hc4
  clear hv4 hg4 hc4 ho4 hq4
  obtain ⟨hX, hY, _, _, hb45⟩ := box2 (Below.refl ((w4.alloc (.cells #[.int .i64 1, .int .i64 2] 30)).alloc (.cells #[.int .i64 0, .int .i64 0] 30)).heap.size _)
  have hW : Wk w ((w4.alloc (.cells #[.int .i64 1, .int .i64 2] 30)).alloc (.cells #[.int .i64 0, .int .i64 0] 30)) d w4.heap.size (w4.heap.size + 1) c4 :=
    ⟨hN4.out.ext hb45, Blk.below hT4.out hb45 (Blk.lt hT4.out), hX, hY, hcd4.out.ext hb45, hB4.out.trans (hb45.mono hB4.out.size)⟩
  have HW := hid hW
  clear hX hY hb45 hW hN2 hN3 hN4 hT2 hT3 hT4 hB2 hB3 hB4 hcb2 HCD2 hcd3 hcd4
  unfold Tv
  go_wp2_with fail
  refine (may_any 2 0 _).mono ?_; rintro e w5 ⟨rfl, hw5⟩
  rw [show mayT 2 0 = true by decide]
  have HW5 := hid (HW.out.ext hw5)
  clear hw5
  generalize w4.heap.size = gx at HW HW5 ⊢
  go_wp2_with fail
  refine (may_any 2 1 _).mono ?_; rintro e w6 ⟨rfl, hw6⟩
  rw [show mayT 2 1 = true by decide]
  have HW6 := hid (HW5.out.ext hw6)
  clear hw6 HW5 HW
  go_wp2_with fail
  refine (may_any 2 5 _).mono ?_; rintro e w7 ⟨rfl, hw7⟩
  rw [show mayT 2 5 = true by decide]
  have HW7 := hid (HW6.out.ext hw7)
  have HW8 := hid (HW7.out.ext (ext_alloc w7 (.cells #[.int .u8 112] 5 (1, 2))))
  clear hw7 HW6
  obtain ⟨p0, p1, _, _⟩ := blk2 HW8.out.t
  go_wp2_with fail
  refine (tput_any _ [112] 1 2 _ (bs_new w7 [112] #[.int .u8 112] (1, 2) 1 rfl rfl) ⟨_, _, _, rfl⟩ (by decide)).mono ?_; rintro e w9 ⟨v9, rfl, hown9, hb9⟩
  rw [show [112] ++ putT 1 2 = [112, 10] by decide +kernel] at hown9
  have hts9 := run_to_string hown9.bs
  have HW9 := hid (HW8.out.ext hb9)
  clear hown9 hb9 HW8 HW7 p0 p1
  obtain ⟨p0, p1, _, _⟩ := blk2 HW9.out.t
  go_wp2_with fail
  refine (tsize_any 1 2 _).mono ?_; rintro e w10 ⟨rfl, hb10⟩
  rw [show (putT 1 2).length = 1 by decide +kernel]
  have HW10 := hid (HW9.out.ext hb10)
  clear hb10 HW9 p0 p1 hts9
  obtain ⟨p0, p1, _, _⟩ := blk2 HW10.out.t
  obtain ⟨x0, x1, _, _⟩ := blk2 HW10.out.x
  obtain ⟨y0, y1, _, _⟩ := blk2 HW10.out.y
  go_wp2_with fail
  refine (err_any d _ _ HW10.out.cd).mono ?_; rintro e w11 ⟨rfl, rfl⟩
  go_wp2_with fail
  refine (may_any 1 3 _).mono ?_; rintro e w12 ⟨rfl, hw12⟩
  rw [show mayT 1 3 = false by decide]
  go_wp2_with fail
  go_ret
  exact ⟨rfl, HW10.out.bel.trans (hw12.mono HW10.out.bel.size)⟩
structure VJ (c d : Cu) : Prop where
  fc : c.fit
  fd : d.fit
  code : d.code = c.code
  same : c.code = 0 → c = d
theorem VJ.stepR {c d c' d' : Cu} (h : VJ c d) (R : List UInt8 → Int × Nat) (hc : Rd c c' (R c.ahead).1 (R c.ahead).2) (hd : Rd d d' (R d.ahead).1 (R d.ahead).2) : VJ c' d' := by
  by_cases h0 : c.code = 0
  · obtain rfl := h.same h0
    obtain ⟨a1, a2⟩ := hc.good h0
    obtain ⟨b1, b2⟩ := hd.good h0
    exact ⟨hc.fit, hd.fit, by rw [a1, b1], fun hz => by rw [a2 (a1 ▸ hz), b2 (a1 ▸ hz)]⟩
  · have a1 := hc.bad h0
    have b1 := hd.bad (by rw [h.code]; exact h0)
    subst a1 b1
    exact h
theorem VJ.stepL {c d c' d' : Cu} (h : VJ c d) (R : List UInt8 → Int × Nat × Int × Int) {i j k m : Int}
    (hc : Rd c c' (R c.ahead).1 (R c.ahead).2.1) (hcb : c.code ≠ 0 → i = 0 ∧ k = 0) (hcg : c.code = 0 → i = (R c.ahead).2.2.1 ∧ k = (R c.ahead).2.2.2)
    (hd : Rd d d' (R d.ahead).1 (R d.ahead).2.1) (hdb : d.code ≠ 0 → j = 0 ∧ m = 0) (hdg : d.code = 0 → j = (R d.ahead).2.2.1 ∧ m = (R d.ahead).2.2.2) :
    VJ c' d' ∧ j = i ∧ m = k := by
  refine ⟨h.stepR (fun a => ((R a).1, (R a).2.1)) hc hd, ?_⟩
  by_cases h0 : c.code = 0
  · obtain rfl := h.same h0
    obtain ⟨a1, a2⟩ := hcg h0
    obtain ⟨b1, b2⟩ := hdg h0
    exact ⟨by rw [a1, b1], by rw [a2, b2]⟩
  · obtain ⟨a1, a2⟩ := hcb h0
    obtain ⟨b1, b2⟩ := hdb (by rw [h.code]; exact h0)
    exact ⟨by rw [a1, b1], by rw [a2, b2]⟩
def PTRel (w : World) (b g : Nat) (i : Value) (wr : World) : Prop :=
  ∃ (k : Nat) (c d : Cu), k ≤ 4 ∧ i = .int .i64 (k : Int) ∧ VJ c d ∧ Sd w wr b g c d
set_option maxRecDepth 100000 in
set_option maxHeartbeats 4000000 in
theorem ptagReads_any (s : List UInt8) (w : World) (hN : NoneIs w) (hs : s.length ≤ 1125899906842624) :
    Calls Tryd.prog 3 #[Sv s] w fun e w' => e = .returned (.bool true) ∧ Below w.heap.size w w' := by
  have HN := hid hN
  clear hN
  by_cases h200 : 200 < (s.length : Int)
  · go_enter Tryd.func3, Tryd.ntmps3
    go_wp2_with fail
    refine (tworks_any _ HN.out).mono ?_; rintro e w10 ⟨rfl, hw10⟩
    go_wp2_with fail
    go_ret
    exact ⟨rfl, hw10⟩
  have f1 := Cu.start_fit hs
  go_enter Tryd.func3, Tryd.ntmps3
  go_wp2_with fail
  refine (new_any s _ hs).mono ?_; rintro e w1 ⟨b, rfl, hb, hc1, hw1⟩
  go_wp2_with fail
  refine (rnew_any s _).mono ?_; rintro e w2 ⟨rfl, hw2⟩
  have hc2 := CurAt.ext hc1 hw2
  have hbw := ext_trans hw1 hw2
  have hrel0 : PTRel w b w2.heap.size (.int .i64 0) (w2.alloc (.cells #[Sv (Cu.start s).s, .int .i64 (Cu.start s).pos, .int .i64 (Cu.start s).en, .int .i64 (Cu.start s).code] 27)) :=
    ⟨0, _, _, by omega, rfl, ⟨f1, f1, rfl, fun _ => rfl⟩, hc2.alloc _, Blk.new w2 _ _, hbw.alloc hbw.size _, hb, hbw.size, Nat.ne_of_lt hc2.lt⟩
  clear hc1 hw1 hw2 hc2 hbw
  unfold agg
  go_wp2_with fail
  generalize w2.heap.size = g at hrel0 ⊢
  go_loopw [5] (fun i wr => PTRel w b g i wr) (fun i _ => 4 - (intOf i).toNat)
  case atStart => exact hrel0
  case round =>
    clear hrel0 h200
    obtain ⟨k, c, d, hk, rfl, hj, hS⟩ := hrel
    have hS := hid hS
    by_cases hlt : k < 4
    · go_wp2_with fail
      refine (tag_any b c _ (HN.out.ext hS.out.bel) hS.out.cur hj.fc).mono ?_; rintro e w4 ⟨c', n, wi, rfl, hv4, hvb, hvg, hc4, hg4⟩
      have S4 := hid (hS.out.move hc4 hg4)
      have S5 := hid (S4.out.ext (ext_alloc w4 (.cells #[.int .i64 n, .int .i64 wi] 30)))
      have hT5 := hid (Blk.new w4 30 #[.int .i64 n, .int .i64 wi])
      obtain ⟨p0, p1, p2, p3, u0, u1, u2, u3⟩ := blk4 S5.out.doc
      clear hc4 hg4 hS
      unfold Tv
      go_wp2_with fail
      refine (rtag_any d _ hj.fd).mono ?_; rintro e w5 ⟨d', n', wi', rfl, hv5, hub, hug, hw5⟩
      obtain ⟨hj', rfl, rfl⟩ := hj.stepL tagR hv4 hvb hvg hv5 hub hug
      have S6 := hid (S5.out.ext hw5)
      have hT6 := hid (Blk.below hT5.out hw5 (Blk.lt hT5.out))
      have hne : g ≠ w4.heap.size := Nat.ne_of_lt (Blk.lt S4.out.doc)
      have S7 := hid (S6.out.put d')
      have hT7 : Blk ((((w5.setCell ⟨g, 0, none⟩ (Sv d'.s)).setCell ⟨g, 1, none⟩ (.int .i64 d'.pos)).setCell ⟨g, 2, none⟩ (.int .i64 d'.en)).setCell ⟨g, 3, none⟩ (.int .i64 d'.code)) w4.heap.size 30 #[.int .i64 n', .int .i64 wi'] :=
        Blk.far (Blk.far (Blk.far (Blk.far hT6.out (by exact hne.symm) _) (by exact hne.symm) _) (by exact hne.symm) _) (by exact hne.symm) _
      have HT7 := hid hT7
      clear p0 p1 p2 p3 u0 u1 u2 u3
      obtain ⟨p0, p1, p2, p3, u0, u1, u2, u3⟩ := blk4 S6.out.doc
      clear hw5 hv4 hv5 hvb hvg hub hug S4 S5 hT5 hT7
      generalize w4.heap.size = gt at hT6 HT7 hne ⊢
      unfold agg
      go_wp2_with fail
      clear p0 p1 p2 p3 u0 u1 u2 u3
      obtain ⟨p0, p1, p2, p3, u0, u1, u2, u3⟩ := blk4 S7.out.doc
      obtain ⟨d0, d1, e0, e1⟩ := blk2 HT7.out
      have i0 : (n' != n') = false := by simp
      have i1 : (wi' != wi') = false := by simp
      by_cases hz : c'.code = 0
      · obtain rfl := hj'.same hz
        have c0 : (c'.code == 0) = true := by simpa using hz
        have HJ := hid hj'
        clear hz hj'
        go_quiet ((first
          | (go_at_call 11; exact err_quiet b _ _ _ S7.out.cur)
          | (go_at_call 12; exact at_quiet b _ _ _ S7.out.cur)))
        go_wp2_with fail
        go_roundw
        case rel => exact ⟨k + 1, c', c', by omega, by go_num, HJ.out, S7.out.drewN _⟩
        case measure => simp [intOf] <;> omega
      · have c0 : (c'.code == 0) = false := by simpa using hz
        have c1 : (c'.code != d'.code) = false := by rw [hj'.code]; simp
        have c2 : (d'.code == 0) = false := by rw [hj'.code]; exact c0
        have HJ := hid hj'
        clear hz hj'
        go_quiet ((first
          | (go_at_call 11; exact err_quiet b _ _ _ S7.out.cur)
          | (go_at_call 12; exact at_quiet b _ _ _ S7.out.cur)))
        go_wp2_with fail
        go_roundw
        case rel => exact ⟨k + 1, c', d', by omega, by go_num, HJ.out, S7.out.drewN _⟩
        case measure => simp [intOf] <;> omega
    · have HB := hid hS.out.bel
      clear hS
      go_wp2_with fail
      refine (tworks_any _ (HN.out.ext HB.out)).mono ?_; rintro e w10 ⟨rfl, hw10⟩
      go_wp2_with fail
      go_ret
      exact ⟨rfl, HB.out.trans (hw10.mono HB.out.size)⟩
end Go.Proofs.YtdjbgojdkaipfaaDoor
