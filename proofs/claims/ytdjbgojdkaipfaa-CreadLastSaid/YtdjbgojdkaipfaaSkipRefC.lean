/-
  Walks of the reference of package cskip: structs.
-/
import Derived.Test.YtdjbgojdkaipfaaSkipRefB
namespace Go.Proofs.Ytdjbgojdkaipfaa
open Go.RowKit

def RFl (T : List UInt8 → Int × Nat) (v : Int → List UInt8 → Int × Nat) (w : World) (c0 : Cu) (last i : Value) (wr : World) : Prop :=
  ∃ (L iv : Int) (c : Cu) (n : Nat), last = .int .i64 L ∧ i = .int .i64 iv ∧ (-32768 ≤ L ∧ L ≤ 32767) ∧ (0 ≤ iv ∧ iv ≤ c.en) ∧ Hid (c.code = 0 → iv ≤ c.pos) ∧ Hid (c.code = 0 → c.ahead.length < n) ∧ Hid (Left T (fieldsR v n L) c0 c) ∧ Hid (R2 w wr c ⟨[], 0, 0, 0⟩)
theorem rest_box {w wr : World} {c d : Cu} (h : R2 w wr c d) : rest wr w.heap.size = if c.code = 0 then c.en - c.pos + 1 else 0 := by
  unfold rest
  rw [h.a.cell 1, h.a.cell 2, h.a.cell 3]
  show (if c.code = 0 then ((c.en : Int) - (c.pos : Int)).toNat + 1 else 0) = _
  split
  · omega
  · rfl
theorem struct_end {v : Int → List UInt8 → Int × Nat} {T : List UInt8 → Int × Nat} {c c3 ci : Cu} {L : Int} {m : Nat} (hL : Left T (fieldsR v m L) c ci) (hm : 0 < m)
    (hr : RdF (fun a => ((fieldR L a).1, (fieldR L a).2.1)) ci c3) (hk : (fieldR L ci.ahead).2.2.2 = 0) : RdF T c c3 := by
  obtain ⟨q, rfl⟩ : ∃ q, m = q + 1 := ⟨m - 1, by omega⟩
  refine hL.2 c3 (show Rd _ _ _ _ from ?_)
  have hr : Rd ci c3 (fieldR L ci.ahead).1 (fieldR L ci.ahead).2.1 := hr
  rw [fieldsR]
  by_cases hc0 : (fieldR L ci.ahead).1 = 0
  · rw [if_pos hc0, if_pos hk]
    rw [hc0] at hr
    exact hr
  · rw [if_neg hc0]
    exact ⟨hr.s, hr.en, hr.fit, hr.bad, fun hh => ⟨(hr.good hh).1, fun hz => absurd hz hc0⟩⟩
theorem struct_step {v : Int → List UInt8 → Int × Nat} {T : List UInt8 → Int × Nat} {c c3 c4 ci : Cu} {L : Int} {m : Nat} (hL : Left T (fieldsR v m L) c ci) (hm : ci.ahead.length < m) (h0 : ci.code = 0)
    (hr : RdF (fun a => ((fieldR L a).1, (fieldR L a).2.1)) ci c3) (hk : (fieldR L ci.ahead).2.2.2 ≠ 0) (h4 : RdF (v (fieldR L ci.ahead).2.2.2) c3 c4) :
    Left T (fieldsR v (m - 1) (fieldR L ci.ahead).2.2.1) c c4 ∧ (c4.code = 0 → c4.ahead.length < m - 1 ∧ c4.en - c4.pos < ci.en - ci.pos ∧ ci.pos + 1 ≤ c4.pos) ∧ ci.pos + 1 ≤ ci.en ∧ c4.en = ci.en := by
  obtain ⟨q, rfl⟩ : ∃ q, m = q + 1 := ⟨m - 1, by omega⟩
  have hc0 : (fieldR L ci.ahead).1 = 0 := fieldR_ok L ci.ahead hk
  obtain ⟨p1, p2⟩ := fieldR_pos L ci.ahead hc0
  have hl := ahead_length hL.1
  refine ⟨⟨h4.fit, fun c' h' => hL.2 c' ((hr.seq (h4.seq h')).congr (by simp only [fieldsR, seqR, if_pos hc0, if_neg hk, if_true, Nat.add_sub_cancel]))⟩, fun h40 => ?_, by omega, h4.en.trans hr.en⟩
  obtain ⟨g1, g2⟩ := hr.good h0
  have e3 := g2 hc0
  have h30 : c3.code = 0 := g1.trans hc0
  obtain ⟨t1, t2⟩ := h4.good h30
  have e4 := t2 (t1.symm.trans h40)
  have hl4 := ahead_length h4.fit
  have q1 : c4.pos = ci.pos + (fieldR L ci.ahead).2.1 + (v (fieldR L ci.ahead).2.2.2 c3.ahead).2 := by rw [e4, e3]
  have q2 : c4.en = ci.en := by rw [e4, e3]
  exact ⟨by omega, by omega, by omega⟩
set_option maxRecDepth 100000 in
set_option maxHeartbeats 4000000 in
theorem rfields_of {n : Nat} (hv : RValOk n) (c : Cu) (deep : Int) (w : World) (hf : c.fit) (d0 : 0 ≤ deep) (d1 : deep ≤ 1000) (hn : (32 - deep).toNat = n) :
    Calls Try.prog 132 #[agg c, .int .i64 deep] w fun e w' => RK (structR (skipV n)) c w e w' := by
  have l1 := hf.le1
  have hrel0 : RFl (structR (skipV n)) (skipV n) w c (.int .i64 0) (.int .i64 c.pos) ((w.alloc (.cells #[Sv c.s, .int .i64 c.pos, .int .i64 c.en, .int .i64 c.code] 78)).alloc (.cells #[Sv [], .int .i64 0, .int .i64 0, .int .i64 0] 78)) :=
    ⟨0, c.pos, c, c.ahead.length + 1, rfl, rfl, by decide, ⟨by omega, by omega⟩, hid (fun _ => Int.le_refl _), hid (fun _ => by omega), hid (struct_start hf), hid (R2.new w c)⟩
  have HV := hid hv
  have HN := hid hn
  clear hv hn l1
  unfold agg
  go_enter Try.func132, Try.ntmps132
  go_wp2_with fail
  try simp only [string_Sv]
  go_loopw [5, 6] (fun l i wr => RFl (structR (skipV n)) (skipV n) w c l i wr) (fun _ _ wr => rest wr w.heap.size)
  case atStart => exact hrel0
  case round =>
    clear hrel0
    obtain ⟨L, iv, ci, m, rfl, rfl, ⟨l0, l1⟩, ⟨i0, i1⟩, HI, HM, HL, HRi⟩ := hrel
    obtain ⟨⟨p0, p1, p2, p3, f0, f1, f2, f3⟩, ⟨r0, r1, r2, r3, g0, g1, g2, g3⟩, z0, z1⟩ := HRi.out.cells
    have hms := rest_box HRi.out
    by_cases hz : ci.code = 0
    case neg =>
      have hz1 : (ci.code == 0) = false := by simpa using hz
      have HZ := hid hz
      clear hz hms
      go_wp2_with fail
      exact bodyPost_ret (v := .agg #[Sv ci.s, .int .i64 ci.pos, .int .i64 ci.en, .int .i64 ci.code]) (by simp only [results, Try.results132]; go_simp) rfl
        (RK.mk (c' := ci) (HL.out.stop HZ.out) (by ((repeat (first | (with_reducible refine Below.drew ?_) | (with_reducible refine Below.setCell ?_ (by simp <;> omega) _) | (with_reducible refine Below.alloc ?_ (by simp <;> omega) _))); exact (HRi).out.bel)))
    have hz1 : (ci.code == 0) = true := by simpa using hz
    have hmm := HM.out hz
    have hiv := HI.out hz
    have HZ := hid hz
    rw [if_pos hz] at hms
    have HMS := hid hms
    clear hz hms
    go_wp2_with fail
    refine (rfield_any ci L _ HL.out.1 (by omega) (by omega)).mono ?_; rintro e w3 ⟨c3, id, kind, rfl, hv3, hvb, hvg, hw3⟩
    obtain ⟨e1, e2⟩ := hvg HZ.out
    obtain ⟨hk0, hk1⟩ := fieldR_kind L ci.ahead
    have hbd := fieldR_id L ci.ahead
    have HV3 := hid (show RdF (fun a => ((fieldR L a).1, (fieldR L a).2.1)) ci c3 from hv3)
    have HE1 := hid e1
    have HE2 := hid e2
    rw [← e2] at hk0 hk1
    rw [← e1] at hbd
    have R3 := HRi.out.ext hw3
    have HX3 := hid ((R3.put c3).ext (ext_alloc _ (.cells #[Sv c3.s, .int .i64 c3.pos, .int .i64 c3.en, .int .i64 c3.code] 78)))
    clear p0 p1 p2 p3 f0 f1 f2 f3 r0 r1 r2 r3 g0 g1 g2 g3 z0 z1
    obtain ⟨⟨p0, p1, p2, p3, f0, f1, f2, f3⟩, ⟨r0, r1, r2, r3, g0, g1, g2, g3⟩, z0, z1⟩ := R3.cells
    have zz := Blk.lt R3.a
    have HB3 := hid R3
    clear hv3 hvb hvg hw3 e1 e2 R3 HRi
    unfold agg
    by_cases hks : kind = 0
    · subst hks
      have HFIN := hid (struct_end HL.out (by omega) HV3.out HE2.out.symm)
      go_wp2_with fail
      exact bodyPost_ret (v := .agg #[Sv c3.s, .int .i64 c3.pos, .int .i64 c3.en, .int .i64 c3.code]) (by simp only [results, Try.results132]; go_simp) rfl
        (RK.mk (c' := c3) HFIN.out (by ((repeat (first | (with_reducible refine Below.drew ?_) | (with_reducible refine Below.setCell ?_ (by simp <;> omega) _) | (with_reducible refine Below.alloc ?_ (by simp <;> omega) _))); exact (HB3).out.bel)))
    · have hkn : (kind == 0) = false := by simpa using hks
      have HKS := hid hks
      clear hks
      go_wp2_with fail
      refine (HV.out c3 kind deep _ HV3.out.fit hk0 (by omega) d0 d1 HN.out).mono ?_; rintro e w4 ⟨c4, rfl, hr4, hw4⟩
      rw [HE2.out] at hr4
      obtain ⟨HL4, hgo, hen, hen4⟩ := struct_step HL.out hmm HZ.out HV3.out (by rw [← HE2.out]; exact HKS.out) hr4
      rw [← HE1.out] at HL4
      have R4 := HX3.out.ext hw4
      have HP4 := hid (R4.put c4)
      have hm4 := rest_box HP4.out
      have HLL := hid HL4
      have HGO := hid hgo
      have HEN := hid (And.intro hen hen4)
      clear p0 p1 p2 p3 f0 f1 f2 f3 r0 r1 r2 r3 g0 g1 g2 g3 z0 z1
      obtain ⟨⟨p0, p1, p2, p3, f0, f1, f2, f3⟩, ⟨r0, r1, r2, r3, g0, g1, g2, g3⟩, z0, z1⟩ := R4.cells
      clear hr4 hw4 R4 HX3 HL4 hgo HB3 hen hen4
      unfold agg
      have hwi : IntKind.i64.wrap (iv + 1) = iv + 1 := by have := HEN.out.1; have := HL.out.1.le2; have := HL.out.1.le3; rw [IntKind.wrap_i64]; omega
      go_wp2_with fail
      go_roundw
      case rel => exact ⟨id, iv + 1, c4, m - 1, rfl, by first | rfl | go_num, hbd, ⟨by omega, by have := HEN.out.1; have := HEN.out.2; omega⟩, hid (fun h => by have := (HGO.out h).2.2; omega), hid (fun h => (HGO.out h).1), HLL, HP4⟩
      case measure =>
        rw [hm4, HMS.out]
        split
        · rename_i h40
          have := (HGO.out h40).2.1
          omega
        · omega
end Go.Proofs.Ytdjbgojdkaipfaa
