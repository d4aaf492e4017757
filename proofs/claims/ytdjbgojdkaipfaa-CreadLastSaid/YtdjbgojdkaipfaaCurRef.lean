/-
  Walks of the reference of package cursor.
-/
import Derived.Test.YtdjbgojdkaipfaaCurB
import Derived.Laws.ResultCell
namespace Go.Proofs.Ytdjbgojdkaipfaa
open Go.RowKit

/-- A cursor of the document's, by value. -/
def agg (c : Cu) : Value := .agg #[Sv c.s, .int .i64 c.pos, .int .i64 c.en, .int .i64 c.code]

set_option maxRecDepth 100000 in
theorem rnew_any (s : List UInt8) (w : World) :
    Calls Try.prog 54 #[Sv s] w fun e w' => e = .returned (agg (Cu.start s)) ∧ Below w.heap.size w w' := by
  go_enter Try.func54, Try.ntmps54
  go_wp2
  exact bodyPost_ret (v := agg (Cu.start s)) (by simp [results, Try.results54, agg, Cu.start, go_sem]) rfl ⟨rfl, ext_alloc _ _⟩
set_option maxRecDepth 100000 in
set_option maxHeartbeats 400000 in
theorem rwhy_any (c : Cu) (n : Int) (w : World) (hf : c.fit) :
    Calls Try.prog 158 #[agg c, .int .i64 n] w fun e w' => e = .returned (.int .i64 (c.why n)) ∧ Below w.heap.size w w' := by
  obtain ⟨s, pos, en, code⟩ := c
  obtain ⟨l1, l2, l3⟩ := hf
  simp only at l1 l2 l3
  unfold agg
  by_cases hcode : code = 0
  · subst hcode
    by_cases hn : n < 0
    · have hw := hid (show Cu.why ⟨s, pos, en, 0⟩ n = 13 by simp [Cu.why, hn])
      go_enter Try.func158, Try.ntmps158
      go_wp2
      go_ret
      exact ⟨by rw [hw.out]; rfl, ext_alloc _ _⟩
    · by_cases hl : (en : Int) - pos < n
      · have hw := hid (show Cu.why ⟨s, pos, en, 0⟩ n = 1 by simp [Cu.why, hn, hl])
        go_enter Try.func158, Try.ntmps158
        go_wp2
        go_ret
        exact ⟨by rw [hw.out]; rfl, ext_alloc _ _⟩
      · have hw := hid (show Cu.why ⟨s, pos, en, 0⟩ n = 0 by simp [Cu.why, hn, hl])
        go_enter Try.func158, Try.ntmps158
        go_wp2
        go_ret
        exact ⟨by rw [hw.out]; rfl, ext_alloc _ _⟩
  · have hb : (code != 0) = true := by simpa using hcode
    have hw := hid (show Cu.why ⟨s, pos, en, code⟩ n = code by simp [Cu.why, hcode])
    clear hcode
    go_enter Try.func158, Try.ntmps158
    go_wp2
    go_ret
    exact ⟨by rw [hw.out]; rfl, ext_alloc _ _⟩
set_option maxRecDepth 100000 in
set_option maxHeartbeats 600000 in
theorem rtake_any (c : Cu) (n : Int) (w : World) (hf : c.fit) :
    Calls Try.prog 130 #[agg c, .int .i64 n] w fun e w' => e = .returned (.tuple #[agg (c.take n), Sv (c.text n)]) ∧ Below w.heap.size w w' := by
  have l1 := hf.le1
  have l2 := hf.le2
  have l3 := hf.le3
  by_cases hw : c.why n = 0
  · obtain ⟨hz, hn0, hle⟩ := Cu.why_zero hw
    have HT := hid (show c.take n = { c with pos := c.pos + n.toNat } by simp [Cu.take, hw])
    have HX := hid (show c.text n = (c.s.drop c.pos).take n.toNat by simp [Cu.text, hw])
    have e1 := (show ((c.pos : Int) + n).toNat - c.pos = n.toNat by omega)
    have hm := hid (show ((c.pos : Int) + n) = ((c.pos + n.toNat : Nat) : Int) by omega)
    have HZ := hid hz
    have HW := hid hw
    clear hz hw
    unfold agg
    go_enter Try.func130, Try.ntmps130
    go_wp2_with (go_at_call 158; refine (rwhy_any c n _ hf).mono ?_; rintro e w1 ⟨rfl, hb1⟩; rw [HW.out]; obtain ⟨hA, hB, z0, z1, hbw⟩ := box2 hb1; obtain ⟨p0, p1, p2, p3, f0, f1, f2, f3⟩ := blk4 hA; obtain ⟨r0, r1, r2, r3, g0, g1, g2, g3⟩ := blk4 hB; have HA := hid hA; have HB := hid hB; have HBW := hid hbw; clear hA hB hb1 hbw)
    rw [HT.out, HX.out, HZ.out, ← hm.out]
    exact bodyPost_ret (v := .tuple #[.agg #[Sv c.s, .int .i64 ((c.pos : Int) + n), .int .i64 c.en, .int .i64 0], Sv ((c.s.drop c.pos).take n.toNat)]) (by simp only [results, Try.results130]; go_simp) rfl
      ⟨rfl, by (repeat (refine Below.setCell ?_ (by simp) _)); exact HBW.out⟩
  · have hb : (c.why n != 0) = true := by simpa using hw
    have HT := hid (show c.take n = { c with code := c.why n } by simp [Cu.take, hw])
    have HX := hid (show c.text n = [] by simp [Cu.text, hw])
    clear hw
    unfold agg
    go_enter Try.func130, Try.ntmps130
    go_wp2_with (go_at_call 158; refine (rwhy_any c n _ hf).mono ?_; rintro e w1 ⟨rfl, hb1⟩; obtain ⟨hA, hB, z0, z1, hbw⟩ := box2 hb1; obtain ⟨p0, p1, p2, p3, f0, f1, f2, f3⟩ := blk4 hA; obtain ⟨r0, r1, r2, r3, g0, g1, g2, g3⟩ := blk4 hB; have HA := hid hA; have HB := hid hB; have HBW := hid hbw; clear hA hB hb1 hbw)
    rw [HT.out, HX.out]
    exact bodyPost_ret (v := .tuple #[.agg #[Sv c.s, .int .i64 c.pos, .int .i64 c.en, .int .i64 (c.why n)], Sv []]) (by simp only [results, Try.results130]; go_simp) rfl
      ⟨rfl, by (repeat (refine Below.setCell ?_ (by simp) _)); exact HBW.out⟩

theorem Cu.text_one {c : Cu} (h : c.fit) (hw : c.why 1 = 0) : c.text 1 = [UInt8.ofNat c.byte.toNat] ∧ byteAt (c.text 1) 0 = c.byte := by
  obtain ⟨_, _, h2⟩ := Cu.why_zero hw
  have l1 := h.le1
  have l2 := h.le2
  have hlt : c.pos < c.s.length := by omega
  have e : c.text 1 = [c.s[c.pos]] := by
    simp only [Cu.text, hw, if_true]
    rw [List.drop_eq_getElem_cons hlt]
    rfl
  have e2 : c.byte = (c.s[c.pos].toNat : Int) := by
    simp only [Cu.byte, hw, if_true]
    exact byteAt_get _ _ hlt
  rw [e, e2]
  simp [byteAt]
set_option maxRecDepth 100000 in
set_option maxHeartbeats 600000 in
theorem rbyte_any (c : Cu) (w : World) (hf : c.fit) :
    Calls Try.prog 115 #[agg c] w fun e w' => e = .returned (.tuple #[agg (c.take 1), .int .u8 c.byte]) ∧ Below w.heap.size w w' := by
  by_cases hw : c.why 1 = 0
  · obtain ⟨ht, hb⟩ := Cu.text_one hf hw
    have hne : (c.text 1 == []) = false := by rw [ht]; rfl
    have hl : (0 : Int) < ((c.text 1).length : Int) := by rw [ht]; simp
    clear hw ht
    unfold agg
    go_enter Try.func115, Try.ntmps115
    go_wp2_with (go_at_call 130; refine (rtake_any c 1 _ hf).mono ?_; rintro e w1 ⟨rfl, hb1⟩; unfold agg; obtain ⟨hA, hB, z0, z1, hbw⟩ := box2 hb1; obtain ⟨p0, p1, p2, p3, f0, f1, f2, f3⟩ := blk4 hA; obtain ⟨r0, r1, r2, r3, g0, g1, g2, g3⟩ := blk4 hB; have HA := hid hA; have HB := hid hB; have HBW := hid hbw; clear hA hB hb1 hbw)
    go_region
    go_wp2
    exact bodyPost_ret (v := .tuple #[.agg #[Sv (c.take 1).s, .int .i64 (c.take 1).pos, .int .i64 (c.take 1).en, .int .i64 (c.take 1).code], .int .u8 c.byte]) (by simp only [results, Try.results115]; go_simp) rfl ⟨rfl, by (repeat (first | (with_reducible refine Below.drew ?_) | (with_reducible refine Below.setCell ?_ (by simp <;> omega) _) | (with_reducible refine Below.alloc ?_ (by simp <;> omega) _))); exact HBW.out⟩
  · have ht : c.text 1 = [] := by simp [Cu.text, hw]
    have hb0 : c.byte = 0 := by simp [Cu.byte, hw]
    have HB0 := hid hb0
    clear hw hb0
    unfold agg
    go_enter Try.func115, Try.ntmps115
    go_wp2_with (go_at_call 130; refine (rtake_any c 1 _ hf).mono ?_; rintro e w1 ⟨rfl, hb1⟩; unfold agg; obtain ⟨hA, hB, z0, z1, hbw⟩ := box2 hb1; obtain ⟨p0, p1, p2, p3, f0, f1, f2, f3⟩ := blk4 hA; obtain ⟨r0, r1, r2, r3, g0, g1, g2, g3⟩ := blk4 hB; have HA := hid hA; have HB := hid hB; have HBW := hid hbw; clear hA hB hb1 hbw)
    exact bodyPost_ret (v := .tuple #[.agg #[Sv (c.take 1).s, .int .i64 (c.take 1).pos, .int .i64 (c.take 1).en, .int .i64 (c.take 1).code], .int .u8 0]) (by simp only [results, Try.results115]; go_simp) rfl ⟨by rw [HB0.out], by (repeat (first | (with_reducible refine Below.drew ?_) | (with_reducible refine Below.setCell ?_ (by simp <;> omega) _) | (with_reducible refine Below.alloc ?_ (by simp <;> omega) _))); exact HBW.out⟩

set_option maxRecDepth 100000 in
set_option maxHeartbeats 400000 in
theorem rfail_any (c : Cu) (n : Int) (w : World) :
    Calls Try.prog 116 #[agg c, .int .i64 n] w fun e w' => e = .returned (agg (c.fail n)) ∧ Below w.heap.size w w' := by
  have HBW := hid (Below.refl w.heap.size w)
  by_cases hc : c.code = 0
  · have HT := hid (show c.fail n = { c with code := n } by simp [Cu.fail, hc])
    have hb : (c.code == 0) = true := by simpa using hc
    clear hc
    unfold agg
    go_enter Try.func116, Try.ntmps116
    go_wp2
    rw [HT.out]
    exact bodyPost_ret (v := .agg #[Sv c.s, .int .i64 c.pos, .int .i64 c.en, .int .i64 n]) (by simp only [results, Try.results116]; go_simp) rfl ⟨rfl, by (repeat (first | (with_reducible refine Below.drew ?_) | (with_reducible refine Below.setCell ?_ (by simp <;> omega) _) | (with_reducible refine Below.alloc ?_ (by simp <;> omega) _))); exact HBW.out⟩
  · have HT := hid (show c.fail n = c by simp [Cu.fail, hc])
    have hb : (c.code == 0) = false := by simpa using hc
    clear hc
    unfold agg
    go_enter Try.func116, Try.ntmps116
    go_wp2
    rw [HT.out]
    exact bodyPost_ret (v := .agg #[Sv c.s, .int .i64 c.pos, .int .i64 c.en, .int .i64 c.code]) (by simp only [results, Try.results116]; go_simp) rfl ⟨rfl, by (repeat (first | (with_reducible refine Below.drew ?_) | (with_reducible refine Below.setCell ?_ (by simp <;> omega) _) | (with_reducible refine Below.alloc ?_ (by simp <;> omega) _))); exact HBW.out⟩

set_option maxRecDepth 100000 in
set_option maxHeartbeats 400000 in
theorem rend_any (c : Cu) (w : World) :
    Calls Try.prog 139 #[agg c] w fun e w' => e = .returned (.int .i64 c.fin) ∧ Below w.heap.size w w' := by
  by_cases hc : c.code = 0
  · have hb : (c.code == 0) = true := by simpa using hc
    by_cases hp : c.pos < c.en
    · have HF := hid (show c.fin = 2 by simp [Cu.fin, hc, hp])
      clear hc
      unfold agg
      go_enter Try.func139, Try.ntmps139
      go_wp2
      go_ret
      exact ⟨by rw [HF.out]; rfl, ext_alloc _ _⟩
    · have HF := hid (show c.fin = c.code by simp [Cu.fin, hc, hp])
      clear hc
      unfold agg
      go_enter Try.func139, Try.ntmps139
      go_wp2
      go_ret
      exact ⟨by rw [HF.out]; rfl, ext_alloc _ _⟩
  · have hb : (c.code == 0) = false := by simpa using hc
    have HF := hid (show c.fin = c.code by simp [Cu.fin, hc])
    clear hc
    unfold agg
    go_enter Try.func139, Try.ntmps139
    go_wp2
    go_ret
    exact ⟨by rw [HF.out]; rfl, ext_alloc _ _⟩
end Go.Proofs.Ytdjbgojdkaipfaa
