/-
  Walks of package cread: numbers, texts, raw values.
-/
import Derived.Test.YtdjbgojdkaipfaaSkipD
import Derived.Test.YtdjbgojdkaipfaaReadW
import Derived.Test.YtdjbgojdkaipfaaWord
namespace Go.Proofs.Ytdjbgojdkaipfaa
open Go.RowKit

/-- A reader over a cursor. -/
structure Rv (rb b : Nat) (s : List UInt8) (c : Cu) (w : World) : Prop where
  rdr : Blk w rb 181 #[Sv s, .pointer (some ⟨b, 0, none⟩)]
  cur : CurAt w b c
  cs : c.s = s
theorem Rv.ne {rb b : Nat} {s : List UInt8} {c : Cu} {w : World} (h : Rv rb b s c w) : rb ≠ b := Blk.ne_ h.rdr h.cur (by decide)
theorem Rv.move {rb b : Nat} {s : List UInt8} {c c' : Cu} {w w' : World} (h : Rv rb b s c w) (hc : CurAt w' b c') (k : w.grownBy w' (some b)) (hs : c'.s = c.s) : Rv rb b s c' w' :=
  ⟨Blk.grown h.rdr k (by intro e; injection e with e; exact h.ne e), hc, hs.trans h.cs⟩
theorem Rv.p0 {rb b : Nat} {s : List UInt8} {c : Cu} {w : World} (h : Rv rb b s c w) : w.cell? ⟨rb, 0, none⟩ = some (Sv s) := h.rdr.cell 0
theorem Rv.p1 {rb b : Nat} {s : List UInt8} {c : Cu} {w : World} (h : Rv rb b s c w) : w.cell? ⟨rb, 1, none⟩ = some (.pointer (some ⟨b, 0, none⟩)) := h.rdr.cell 1
def numbR (bits : Int) (a : List UInt8) : Int × Nat := if vcode a = 0 then (if fitC (zagV (vnum a)) bits = 0 then (0, vlen 10 a) else (fitC (zagV (vnum a)) bits, 0)) else (vcode a, 0)
theorem zag_bd {u : Int} (h0 : 0 ≤ u) (h1 : u ≤ 18446744073709551615) : -9223372036854775808 ≤ zagV u ∧ zagV u ≤ 9223372036854775807 := by
  unfold zagV; split <;> omega
theorem fitC_or (n b : Int) : fitC n b = 0 ∨ fitC n b = 4 ∨ fitC n b = 13 := by
  unfold fitC
  split
  · split <;> simp
  · simp
def NPost (bits : Int) (b : Nat) (c : Cu) (w : World) (e : Ending) (w' : World) : Prop :=
  ∃ c' n, e = .returned (.int .i64 n) ∧ RdF (numbR bits) c c' ∧ CurAt w' b c' ∧ w.grownBy w' (some b) ∧ (c.code = 0 → c'.code = 0 → n = zagV (vnum c.ahead)) ∧ -9223372036854775808 ≤ n ∧ n ≤ 9223372036854775807
set_option maxRecDepth 100000 in
set_option maxHeartbeats 2000000 in
theorem number_any (rb b : Nat) (s : List UInt8) (c : Cu) (bits : Int) (w : World) (h : Rv rb b s c w) (hf : c.fit) (hb : bits = 16 ∨ bits = 32 ∨ bits = 64) :
    Calls Try.prog 160 #[ptr rb, .int .i64 bits] w fun e w' => NPost bits b c w e w' := by
  have hb1 : 1 ≤ bits ∧ bits ≤ 64 := by omega
  have HV := hid h
  have q1 := h.p1
  clear h
  go_enter Try.func160, Try.ntmps160
  go_wp2_with fail
  refine (vread_any b c _ HV.out.cur hf).mono ?_; rintro e w1 ⟨c1, u, rfl, hv, hc1, hg1⟩
  have hu : 0 ≤ u ∧ u ≤ 18446744073709551615 := by
    by_cases h0 : c.code = 0
    · rw [(hv.good h0).2.1]; exact vnum_bd _
    · rw [(hv.bad h0).2]; decide
  obtain ⟨z0, z1⟩ := zag_bd hu.1 hu.2
  have HV1 := hid (HV.out.move hc1 hg1 hv.s)
  have HG1 := hid hg1
  have HVR := hid hv
  have q2 := HV1.out.p1
  clear hv hc1 hg1 q1
  go_wp2_with fail
  refine (zag_any u _ hu.1 hu.2).mono ?_; rintro e w2 ⟨rfl, rfl⟩
  go_wp2_with fail
  refine (fit_any (zagV u) bits _ z0 z1 (by omega) (by omega)).mono ?_; rintro e w3 ⟨rfl, rfl⟩
  by_cases hfc : fitC (zagV u) bits = 0
  · have q : (fitC (zagV u) bits != 0) = false := by simpa using hfc
    have HFC := hid hfc
    generalize fitC (zagV u) bits = FC at q ⊢
    generalize fitN (zagV u) bits = FN
    clear hfc
    have HRD : Hid (RdF (numbR bits) c c1) := hid ((rd_var HVR.out).of_eq (fun h0 => by
      obtain ⟨g1, g2, g3⟩ := HVR.out.good h0
      unfold varR numbR
      by_cases hv0 : vcode c.ahead = 0
      · rw [if_pos hv0, ← g2, if_pos HFC.out]
        exact ⟨hv0, fun _ => rfl⟩
      · rw [if_neg hv0]
        exact ⟨rfl, fun hz => absurd hz hv0⟩))
    go_wp2_with fail
    refine (err_any b c1 _ HV1.out.cur).mono ?_; rintro e w4 ⟨rfl, rfl⟩
    by_cases h1 : c1.code = 0
    · have q4 : (c1.code != 0) = false := by simpa using h1
      clear h1
      go_wp2_with fail
      go_ret
      exact ⟨c1, zagV u, rfl, HRD.out, HV1.out.cur, HG1.out, fun h0 _ => by rw [(HVR.out.good h0).2.1], z0, z1⟩
    · have q4 : (c1.code != 0) = true := by simpa using h1
      have H1 := hid h1
      clear h1
      go_wp2_with fail
      go_ret
      exact ⟨c1, 0, rfl, HRD.out, HV1.out.cur, HG1.out, fun _ hh => absurd hh H1.out, by decide, by decide⟩
  · have q : (fitC (zagV u) bits != 0) = true := by simpa using hfc
    have h0 : c.code = 0 := by
      by_cases h0 : c.code = 0
      · exact h0
      · rw [(HVR.out.bad h0).2] at hfc
        rcases hb with rfl | rfl | rfl <;> exact absurd (by decide +kernel) hfc
    obtain ⟨g1, g2, g3⟩ := HVR.out.good h0
    have hv0 : vcode c.ahead = 0 := by
      by_cases hv0 : vcode c.ahead = 0
      · exact hv0
      · rw [g2, vnum, if_neg hv0] at hfc
        rcases hb with rfl | rfl | rfl <;> exact absurd (by decide +kernel) hfc
    have hc10 : c1.code = 0 := by rw [g1, hv0]
    have hq : (c1.fail (fitC (zagV u) bits)).code = fitC (zagV u) bits := by unfold Cu.fail; rw [if_pos hc10]
    have hn2 : c1.fail (fitC (zagV u) bits) = c1.fail (fitC (zagV u) bits) := rfl
    have HRD : Hid (RdF (numbR bits) c (c1.fail (fitC (zagV u) bits))) := hid (by
      have e1 := g3 hv0
      refine ⟨?_, ?_, ?_, fun hh => absurd h0 hh, fun _ => ?_⟩
      · unfold Cu.fail; split
        · exact HVR.out.s
        · exact HVR.out.s
      · unfold Cu.fail; split
        · exact HVR.out.en
        · exact HVR.out.en
      · unfold Cu.fail; split
        · exact ⟨HVR.out.fit.le1, HVR.out.fit.le2, HVR.out.fit.le3⟩
        · exact ⟨HVR.out.fit.le1, HVR.out.fit.le2, HVR.out.fit.le3⟩
      · unfold numbR
        rw [if_pos hv0, ← g2, if_neg hfc]
        exact ⟨hq, fun hz => absurd hz hfc⟩)
    have HCS : Hid ((c1.fail (fitC (zagV u) bits)).s = c1.s) := hid (by unfold Cu.fail; split <;> rfl)
    have HQ : Hid ((c1.fail (fitC (zagV u) bits)).code ≠ 0) := hid (by rw [hq]; exact hfc)
    clear hq hc10 hv0 g1 g2 g3 h0 hn2 hfc
    generalize fitC (zagV u) bits = FC at q HRD HCS HQ ⊢
    generalize fitN (zagV u) bits = FN
    go_wp2_with fail
    refine (fail_any b c1 FC _ HV1.out.cur).mono ?_; rintro e w4 ⟨rfl, hc4, hg4⟩
    obtain ⟨c4, h4⟩ : ∃ c4, c1.fail FC = c4 := ⟨_, rfl⟩
    rw [h4] at hc4 HRD HCS HQ
    have HV4 := hid (HV1.out.move hc4 hg4 HCS.out)
    have HG4 := hid (only_trans HG1.out hg4)
    have q5 := HV4.out.p1
    clear hc4 hg4 h4 HCS q2
    go_wp2_with fail
    refine (err_any b c4 _ HV4.out.cur).mono ?_; rintro e w5 ⟨rfl, rfl⟩
    have q4 : (c4.code != 0) = true := by simpa using HQ.out
    go_wp2_with fail
    go_ret
    exact ⟨c4, 0, rfl, HRD.out, HV4.out.cur, HG4.out, fun _ hh => absurd hh HQ.out, by decide, by decide⟩
end Go.Proofs.Ytdjbgojdkaipfaa
