/-
  The law VarintShort: its walk.
-/
import Derived.Test.YtlibnfkehcpdkaaVarLaw
namespace Go.Proofs.Ytlibnfkehcpdkaa
open Go.RowKit

theorem shortB_true {s : List UInt8} (h : shortB s = true) : vwhole s ∧ varB 9 (vnum s) = s := by
  unfold shortB at h
  rw [Bool.and_eq_true, decide_eq_true_iff, decide_eq_true_iff] at h
  exact ⟨(vfin_whole s).1 h.1, h.2⟩
/-- What the law asks of two texts of one number. -/
theorem short_law (s t : List UInt8) (hs : vfin s = 0) (ht : vfin t = 0) (hv : vnum s = vnum t) :
    (s = t ∨ shortB s = false ∨ shortB t = false) ∧ (shortB s = false ∨ s.length ≤ t.length) := by
  constructor
  · cases h1 : shortB s
    · exact .inr (.inl rfl)
    · cases h2 : shortB t
      · exact .inr (.inr rfl)
      · left
        rw [← (shortB_true h1).2, ← (shortB_true h2).2, hv]
  · cases h1 : shortB s
    · exact .inl rfl
    · right
      have := short_least t ((vfin_whole t).1 ht)
      rw [← hv, (shortB_true h1).2] at this
      exact this
set_option maxRecDepth 100000 in
set_option maxHeartbeats 8000000 in
theorem varintShort_any (s t : List UInt8) (w : World) (hs : s.length ≤ 1125899906842624) (ht : t.length ≤ 1125899906842624) :
    Calls Try.prog 10 #[Sv s, Sv t] w fun e w' => e = .returned (.bool true) ∧ Below w.heap.size w w' := by
  by_cases hfs : vfin s = 0
  case neg =>
    have hb : (vfin s != 0) = true := by simpa using hfs
    clear hfs
    go_enter Try.func10, Try.ntmps10
    go_wp2_with fail
    refine (vshort_any s _ hs).mono ?_; rintro e w1 ⟨rfl, hw1⟩
    go_wp2_with fail
    refine (rvshort_any s _ hs).mono ?_; rintro e w2 ⟨rfl, hw2⟩
    have B2 := hid (ext_trans hw1 hw2)
    clear hw1 hw2
    go_wp2_with fail
    refine (new_any s _ hs).mono ?_; rintro e w3 ⟨b, rfl, hb3, hc3, hw3⟩
    go_wp2_with fail
    refine (new_any t _ ht).mono ?_; rintro e w4 ⟨d, rfl, hd4, hd, hw4⟩
    have hc4 := CurAt.ext hc3 hw4
    have hlt3 := hc3.lt
    have B4 := hid (B2.out.trans ((ext_trans hw3 hw4).mono B2.out.size))
    clear hc3 hw3 hw4
    go_wp2_with fail
    refine (vread_any b _ _ hc4 (Cu.start_fit hs)).mono ?_; rintro e w5 ⟨c', u, rfl, hv5, hc5, hg5⟩
    have hbw : w.heap.size ≤ b := Nat.le_trans B2.out.size hb3
    have hdw : w.heap.size ≤ d := by have := Nat.le_of_lt hlt3; omega
    have hd5 := Blk.grown hd hg5 (by intro h; injection h with h; omega)
    obtain ⟨rfl, hfin⟩ := hv5.start
    have B5 := hid (below_only B4.out hg5 B4.out.size hbw)
    have hf5 := hv5.fit
    clear hv5 hc4 hd hg5
    go_wp2_with fail
    refine (vread_any d _ _ hd5 (Cu.start_fit ht)).mono ?_; rintro e w6 ⟨d', v, rfl, hv6, hd6, hg6⟩
    have hc6 := Blk.grown hc5 hg6 (by intro h; injection h with h; omega)
    obtain ⟨rfl, hfin2⟩ := hv6.start
    have B6 := hid (below_only B5.out hg6 B5.out.size hdw)
    have hf6 := hv6.fit
    clear hv6 hc5 hd5 hg6
    go_wp2_with fail
    refine (end_any b _ _ hc6 hf5).mono ?_; rintro e w7 ⟨rfl, n7, rfl⟩
    rw [hfin]
    go_wp2_with fail
    refine (vworks_any _).mono ?_; rintro e w10 ⟨rfl, hw10⟩
    go_wp2_with fail
    go_ret
    exact ⟨rfl, (below_drewN B6.out _).trans (hw10.mono (below_drewN B6.out n7).size)⟩
  case pos =>
    have hb : (vfin s != 0) = false := by rw [hfs]; rfl
    by_cases hft : vfin t = 0
    case neg =>
      have hb2 : (vfin t != 0) = true := by simpa using hft
      clear hfs hft
      go_enter Try.func10, Try.ntmps10
      go_wp2_with fail
      refine (vshort_any s _ hs).mono ?_; rintro e w1 ⟨rfl, hw1⟩
      go_wp2_with fail
      refine (rvshort_any s _ hs).mono ?_; rintro e w2 ⟨rfl, hw2⟩
      have B2 := hid (ext_trans hw1 hw2)
      clear hw1 hw2
      go_wp2_with fail
      refine (new_any s _ hs).mono ?_; rintro e w3 ⟨b, rfl, hb3, hc3, hw3⟩
      go_wp2_with fail
      refine (new_any t _ ht).mono ?_; rintro e w4 ⟨d, rfl, hd4, hd, hw4⟩
      have hc4 := CurAt.ext hc3 hw4
      have hlt3 := hc3.lt
      have B4 := hid (B2.out.trans ((ext_trans hw3 hw4).mono B2.out.size))
      clear hc3 hw3 hw4
      go_wp2_with fail
      refine (vread_any b _ _ hc4 (Cu.start_fit hs)).mono ?_; rintro e w5 ⟨c', u, rfl, hv5, hc5, hg5⟩
      have hbw : w.heap.size ≤ b := Nat.le_trans B2.out.size hb3
      have hdw : w.heap.size ≤ d := by have := Nat.le_of_lt hlt3; omega
      have hd5 := Blk.grown hd hg5 (by intro h; injection h with h; omega)
      obtain ⟨rfl, hfin⟩ := hv5.start
      have B5 := hid (below_only B4.out hg5 B4.out.size hbw)
      have hf5 := hv5.fit
      clear hv5 hc4 hd hg5
      go_wp2_with fail
      refine (vread_any d _ _ hd5 (Cu.start_fit ht)).mono ?_; rintro e w6 ⟨d', v, rfl, hv6, hd6, hg6⟩
      have hc6 := Blk.grown hc5 hg6 (by intro h; injection h with h; omega)
      obtain ⟨rfl, hfin2⟩ := hv6.start
      have B6 := hid (below_only B5.out hg6 B5.out.size hdw)
      have hf6 := hv6.fit
      clear hv6 hc5 hd5 hg6
      go_wp2_with fail
      refine (end_any b _ _ hc6 hf5).mono ?_; rintro e w7 ⟨rfl, n7, rfl⟩
      rw [hfin]
      go_wp2_with fail
      refine (end_any d _ _ (CurAt.drewN hd6 _) hf6).mono ?_; rintro e w8 ⟨rfl, n8, rfl⟩
      rw [hfin2]
      go_wp2_with fail
      refine (vworks_any _).mono ?_; rintro e w10 ⟨rfl, hw10⟩
      go_wp2_with fail
      go_ret
      exact ⟨rfl, (below_drewN B6.out (n7 + n8)).trans (hw10.mono (below_drewN B6.out (n7 + n8)).size)⟩
    case pos =>
      have hb2 : (vfin t != 0) = false := by rw [hft]; rfl
      by_cases hvv : vnum s = vnum t
      case neg =>
        have hb3 : (vnum s != vnum t) = true := by simpa using hvv
        clear hfs hft hvv
        go_enter Try.func10, Try.ntmps10
        go_wp2_with fail
        refine (vshort_any s _ hs).mono ?_; rintro e w1 ⟨rfl, hw1⟩
        go_wp2_with fail
        refine (rvshort_any s _ hs).mono ?_; rintro e w2 ⟨rfl, hw2⟩
        have B2 := hid (ext_trans hw1 hw2)
        clear hw1 hw2
        go_wp2_with fail
        refine (new_any s _ hs).mono ?_; rintro e w3 ⟨b, rfl, hb3, hc3, hw3⟩
        go_wp2_with fail
        refine (new_any t _ ht).mono ?_; rintro e w4 ⟨d, rfl, hd4, hd, hw4⟩
        have hc4 := CurAt.ext hc3 hw4
        have hlt3 := hc3.lt
        have B4 := hid (B2.out.trans ((ext_trans hw3 hw4).mono B2.out.size))
        clear hc3 hw3 hw4
        go_wp2_with fail
        refine (vread_any b _ _ hc4 (Cu.start_fit hs)).mono ?_; rintro e w5 ⟨c', u, rfl, hv5, hc5, hg5⟩
        have hbw : w.heap.size ≤ b := Nat.le_trans B2.out.size hb3
        have hdw : w.heap.size ≤ d := by have := Nat.le_of_lt hlt3; omega
        have hd5 := Blk.grown hd hg5 (by intro h; injection h with h; omega)
        obtain ⟨rfl, hfin⟩ := hv5.start
        have B5 := hid (below_only B4.out hg5 B4.out.size hbw)
        have hf5 := hv5.fit
        clear hv5 hc4 hd hg5
        go_wp2_with fail
        refine (vread_any d _ _ hd5 (Cu.start_fit ht)).mono ?_; rintro e w6 ⟨d', v, rfl, hv6, hd6, hg6⟩
        have hc6 := Blk.grown hc5 hg6 (by intro h; injection h with h; omega)
        obtain ⟨rfl, hfin2⟩ := hv6.start
        have B6 := hid (below_only B5.out hg6 B5.out.size hdw)
        have hf6 := hv6.fit
        clear hv6 hc5 hd5 hg6
        go_wp2_with fail
        refine (end_any b _ _ hc6 hf5).mono ?_; rintro e w7 ⟨rfl, n7, rfl⟩
        rw [hfin]
        go_wp2_with fail
        refine (end_any d _ _ (CurAt.drewN hd6 _) hf6).mono ?_; rintro e w8 ⟨rfl, n8, rfl⟩
        rw [hfin2]
        go_wp2_with fail
        refine (vworks_any _).mono ?_; rintro e w10 ⟨rfl, hw10⟩
        go_wp2_with fail
        go_ret
        exact ⟨rfl, (below_drewN B6.out (n7 + n8)).trans (hw10.mono (below_drewN B6.out (n7 + n8)).size)⟩
      case pos =>
        have hb3 : (vnum s != vnum t) = false := by rw [hvv]; simp
        obtain ⟨hl1, hl2⟩ := short_law s t hfs hft hvv
        have HL1 := hid hl1
        have HL2 := hid hl2
        clear hfs hft hvv hl1 hl2
        go_enter Try.func10, Try.ntmps10
        go_wp2_with fail
        refine (vshort_any s _ hs).mono ?_; rintro e w1 ⟨rfl, hw1⟩
        go_wp2_with fail
        refine (rvshort_any s _ hs).mono ?_; rintro e w2 ⟨rfl, hw2⟩
        have B2 := hid (ext_trans hw1 hw2)
        clear hw1 hw2
        go_wp2_with fail
        refine (new_any s _ hs).mono ?_; rintro e w3 ⟨b, rfl, hb3, hc3, hw3⟩
        go_wp2_with fail
        refine (new_any t _ ht).mono ?_; rintro e w4 ⟨d, rfl, hd4, hd, hw4⟩
        have hc4 := CurAt.ext hc3 hw4
        have hlt3 := hc3.lt
        have B4 := hid (B2.out.trans ((ext_trans hw3 hw4).mono B2.out.size))
        clear hc3 hw3 hw4
        go_wp2_with fail
        refine (vread_any b _ _ hc4 (Cu.start_fit hs)).mono ?_; rintro e w5 ⟨c', u, rfl, hv5, hc5, hg5⟩
        have hbw : w.heap.size ≤ b := Nat.le_trans B2.out.size hb3
        have hdw : w.heap.size ≤ d := by have := Nat.le_of_lt hlt3; omega
        have hd5 := Blk.grown hd hg5 (by intro h; injection h with h; omega)
        obtain ⟨rfl, hfin⟩ := hv5.start
        have B5 := hid (below_only B4.out hg5 B4.out.size hbw)
        have hf5 := hv5.fit
        clear hv5 hc4 hd hg5
        go_wp2_with fail
        refine (vread_any d _ _ hd5 (Cu.start_fit ht)).mono ?_; rintro e w6 ⟨d', v, rfl, hv6, hd6, hg6⟩
        have hc6 := Blk.grown hc5 hg6 (by intro h; injection h with h; omega)
        obtain ⟨rfl, hfin2⟩ := hv6.start
        have B6 := hid (below_only B5.out hg6 B5.out.size hdw)
        have hf6 := hv6.fit
        clear hv6 hc5 hd5 hg6
        go_wp2_with fail
        refine (end_any b _ _ hc6 hf5).mono ?_; rintro e w7 ⟨rfl, n7, rfl⟩
        rw [hfin]
        go_wp2_with fail
        refine (end_any d _ _ (CurAt.drewN hd6 _) hf6).mono ?_; rintro e w8 ⟨rfl, n8, rfl⟩
        rw [hfin2]
        have B7 := hid (below_drewN B6.out (n7 + n8))
        clear hc6 hd6 hfin hfin2 hf5 hf6
        by_cases hst : s = t
        · have hq : (s == t) = true := by simpa using hst
          clear hst
          cases hS : shortB s
          · have HS := hid hS
            clear hS
            go_wp2_with fail
            refine (vshort_any s _ hs).mono ?_; rintro e x1 ⟨rfl, hx1⟩
            rw [HS.out]
            go_wp2_with fail
            refine (vworks_any _).mono ?_; rintro e w10 ⟨rfl, hw10⟩
            go_wp2_with fail
            go_ret
            exact ⟨rfl, B7.out.trans ((ext_trans hx1 hw10).mono B7.out.size)⟩
          · have hle : s.length ≤ t.length := by have := HL2.out; rw [hS] at this; simpa using this
            have HS := hid hS
            clear hS
            go_wp2_with fail
            refine (vshort_any s _ hs).mono ?_; rintro e x1 ⟨rfl, hx1⟩
            rw [HS.out]
            go_wp2_with fail
            refine (vworks_any _).mono ?_; rintro e w10 ⟨rfl, hw10⟩
            go_wp2_with fail
            go_ret
            exact ⟨rfl, B7.out.trans ((ext_trans hx1 hw10).mono B7.out.size)⟩
        · have hq : (s == t) = false := by simpa using hst
          cases hS : shortB s
          · have HS := hid hS
            clear hS hst
            go_wp2_with fail
            refine (vshort_any s _ hs).mono ?_; rintro e x1 ⟨rfl, hx1⟩
            rw [HS.out]
            go_wp2_with fail
            refine (vshort_any s _ hs).mono ?_; rintro e x2 ⟨rfl, hx2⟩
            rw [HS.out]
            go_wp2_with fail
            refine (vworks_any _).mono ?_; rintro e w10 ⟨rfl, hw10⟩
            go_wp2_with fail
            go_ret
            exact ⟨rfl, B7.out.trans ((ext_trans (ext_trans hx1 hx2) hw10).mono B7.out.size)⟩
          · have hle : s.length ≤ t.length := by have := HL2.out; rw [hS] at this; simpa using this
            have HT := hid (show shortB t = false by have := HL1.out; rw [hS] at this; simpa [hst] using this)
            have HS := hid hS
            clear hS hst
            go_wp2_with fail
            refine (vshort_any s _ hs).mono ?_; rintro e x1 ⟨rfl, hx1⟩
            rw [HS.out]
            go_wp2_with fail
            refine (vshort_any t _ ht).mono ?_; rintro e x2 ⟨rfl, hx2⟩
            rw [HT.out]
            go_wp2_with fail
            refine (vshort_any s _ hs).mono ?_; rintro e x3 ⟨rfl, hx3⟩
            rw [HS.out]
            go_wp2_with fail
            refine (vworks_any _).mono ?_; rintro e w10 ⟨rfl, hw10⟩
            go_wp2_with fail
            go_ret
            exact ⟨rfl, B7.out.trans ((ext_trans (ext_trans (ext_trans hx1 hx2) hx3) hw10).mono B7.out.size)⟩
end Go.Proofs.Ytlibnfkehcpdkaa
