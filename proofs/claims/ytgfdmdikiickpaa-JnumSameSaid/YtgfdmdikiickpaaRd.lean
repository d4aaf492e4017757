/-
  What is read of a cursor, as plain functions of the bytes ahead (for seats without the chapters on Thrift).
-/
import Derived.Test.YtgfdmdikiickpaaCurB
import Derived.Test.YtgfdmdikiickpaaPHexa
namespace Go.Proofs.Ytgfdmdikiickpaa
open Go.RowKit

def Cu.ahead (c : Cu) : List UInt8 := (c.s.take c.en).drop c.pos
theorem Cu.ahead_length {c : Cu} (h : c.fit) : c.ahead.length = c.en - c.pos := by
  have := h.le1; have := h.le2
  simp [Cu.ahead]; omega
theorem Cu.ahead_at (c : Cu) (k : Nat) (h : c.pos + k < c.en) : byteAt c.ahead k = byteAt c.s (c.pos + k) := by
  rw [Cu.ahead, byteAt_drop, byteAt_take _ _ _ h]
theorem Cu.take_bad {c : Cu} (h : c.code ≠ 0) (n : Int) : c.take n = c := by
  have hw : c.why n = c.code := by simp [Cu.why, h]
  rw [Cu.take, hw, if_neg h]
theorem Cu.take_cut {c : Cu} (h : c.code = 0) (hlt : ¬ c.pos < c.en) : c.take 1 = { c with code := 1 } ∧ c.byte = 0 := by
  have hw : c.why 1 = 1 := by
    unfold Cu.why
    rw [if_neg (by simpa using h), if_neg (by omega), if_pos (by omega)]
  rw [Cu.take, Cu.byte, hw]
  exact ⟨rfl, rfl⟩
theorem Cu.take_ok {c : Cu} (h : c.code = 0) (hlt : c.pos < c.en) : c.take 1 = { c with pos := c.pos + 1 } ∧ c.byte = byteAt c.s c.pos := by
  have hw : c.why 1 = 0 := by
    unfold Cu.why
    rw [if_neg (by simpa using h), if_neg (by omega), if_neg (by omega)]
  rw [Cu.take, Cu.byte, hw]
  exact ⟨rfl, rfl⟩
/-- What a reading does to a cursor: the code that it ends with; how many bytes it goes past, if nothing is wrong. -/
structure Rd (c c' : Cu) (K : Int) (n : Nat) : Prop where
  s : c'.s = c.s
  en : c'.en = c.en
  fit : c'.fit
  bad : c.code ≠ 0 → c' = c
  good : c.code = 0 → c'.code = K ∧ (K = 0 → c' = { c with pos := c.pos + n })
theorem Rd.refl_bad {c : Cu} (h : c.code ≠ 0) (hf : c.fit) (K : Int) (n : Nat) : Rd c c K n := ⟨rfl, rfl, hf, fun _ => rfl, fun h0 => absurd h0 h⟩
theorem ahead_cons {c : Cu} (h : c.pos < c.en) (hf : c.fit) : c.ahead = UInt8.ofNat (byteAt c.s c.pos).toNat :: ({ c with pos := c.pos + 1 } : Cu).ahead := by
  have l2 := hf.le2
  have hl : c.pos < (c.s.take c.en).length := by rw [List.length_take]; omega
  have hs : c.pos < c.s.length := by omega
  show (c.s.take c.en).drop c.pos = _ :: (c.s.take c.en).drop (c.pos + 1)
  rw [List.drop_eq_getElem_cons hl, byteAt_ofNat c.s c.pos hs, List.getElem_take]
theorem bi_ofByteAt (l : List UInt8) (k : Nat) : bi (UInt8.ofNat (byteAt l k).toNat) = byteAt l k := by
  have h0 := byteAt_lo l k
  have h1 := byteAt_hi l k
  unfold bi
  rw [UInt8.toNat_ofNat']; omega
theorem ahead_nil {c : Cu} (h : ¬ c.pos < c.en) : c.ahead = [] := by
  show (c.s.take c.en).drop c.pos = []
  apply List.drop_eq_nil_of_le
  rw [List.length_take]; omega
theorem ahead_drop (c : Cu) (n : Nat) : c.ahead.drop n = ({ c with pos := c.pos + n } : Cu).ahead := by
  show ((c.s.take c.en).drop c.pos).drop n = (c.s.take c.en).drop (c.pos + n)
  rw [List.drop_drop]
def seqR (r : Int × Nat) (g : List UInt8 → Int × Nat) (a : List UInt8) : Int × Nat :=
  if r.1 = 0 then ((g (a.drop r.2)).1, r.2 + (g (a.drop r.2)).2) else (r.1, 0)
/-- A reading of the bytes ahead moves a cursor as R says. -/
def RdF (R : List UInt8 → Int × Nat) (c c' : Cu) : Prop := Rd c c' (R c.ahead).1 (R c.ahead).2
theorem Cu.move0 (c : Cu) : ({ c with pos := c.pos + 0 } : Cu) = c := rfl
theorem RdF.seq {R G : List UInt8 → Int × Nat} {c c1 c2 : Cu} (h1 : RdF R c c1) (h2 : RdF G c1 c2) : RdF (fun a => seqR (R a) G a) c c2 := by
  refine ⟨h2.s.trans h1.s, h2.en.trans h1.en, h2.fit, fun hb => ?_, fun h0 => ?_⟩
  · have e1 := h1.bad hb
    subst e1
    exact h2.bad hb
  · obtain ⟨k1, p1⟩ := h1.good h0
    by_cases hk : (R c.ahead).1 = 0
    · have e := p1 hk
      have hc1 : c1.code = 0 := k1.trans hk
      obtain ⟨k2, p2⟩ := h2.good hc1
      have ha : c1.ahead = c.ahead.drop (R c.ahead).2 := by rw [e]; exact (ahead_drop c _).symm
      rw [ha] at k2 p2
      simp only [seqR, if_pos hk]
      refine ⟨k2, fun hz => ?_⟩
      rw [p2 hz, e]
      simp only [Nat.add_assoc]
    · have hc1 : c1.code ≠ 0 := by rw [k1]; exact hk
      have e2 := h2.bad hc1
      simp only [seqR, if_neg hk]
      exact ⟨by rw [e2, k1], fun hz => absurd hz hk⟩
theorem RdF.nil {c : Cu} (hf : c.fit) : RdF (fun _ => (0, 0)) c c := ⟨rfl, rfl, hf, fun _ => rfl, fun h => ⟨h, fun _ => rfl⟩⟩
theorem RdF.stay {c : Cu} (R : List UInt8 → Int × Nat) (hf : c.fit) (h : c.code ≠ 0) : RdF R c c := ⟨rfl, rfl, hf, fun _ => rfl, fun h0 => absurd h0 h⟩
theorem RdF.of_eq {R G : List UInt8 → Int × Nat} {c c' : Cu} (h : RdF R c c') (e : c.code = 0 → (R c.ahead).1 = (G c.ahead).1 ∧ ((R c.ahead).1 = 0 → (R c.ahead).2 = (G c.ahead).2)) : RdF G c c' := by
  refine ⟨h.s, h.en, h.fit, h.bad, fun h0 => ?_⟩
  obtain ⟨k, p⟩ := h.good h0
  obtain ⟨e1, e2⟩ := e h0
  refine ⟨k.trans e1, fun hz => ?_⟩
  rw [p (e1.trans hz), e2 (e1.trans hz)]
theorem RdF.fail {c : Cu} (n : Int) (hn : n ≠ 0) (hf : c.fit) : RdF (fun _ => (n, 0)) c (c.fail n) := by
  refine ⟨?_, ?_, ?_, fun h => ?_, fun h => ?_⟩
  · unfold Cu.fail; split <;> rfl
  · unfold Cu.fail; split <;> rfl
  · unfold Cu.fail; split
    · exact ⟨hf.le1, hf.le2, hf.le3⟩
    · exact hf
  · unfold Cu.fail; rw [if_neg h]
  · unfold Cu.fail; rw [if_pos h]
    exact ⟨rfl, fun hz => absurd hz hn⟩
theorem ahead_length {c : Cu} (hf : c.fit) : c.ahead.length = c.en - c.pos := by
  have := hf.le2
  show ((c.s.take c.en).drop c.pos).length = _
  rw [List.length_drop, List.length_take]; omega
def Left (T R : List UInt8 → Int × Nat) (c0 c : Cu) : Prop := c.fit ∧ ∀ c', RdF R c c' → RdF T c0 c'
theorem Left.step {T R G : List UInt8 → Int × Nat} {c0 c c1 : Cu} (h : Left T (fun a => seqR (R a) G a) c0 c) (hr : RdF R c c1) : Left T G c0 c1 :=
  ⟨hr.fit, fun c' h' => h.2 c' (hr.seq h')⟩
theorem Left.done {T : List UInt8 → Int × Nat} {c0 c : Cu} (h : Left T (fun _ => (0, 0)) c0 c) : RdF T c0 c := h.2 c (RdF.nil h.1)
theorem Left.stop {T R : List UInt8 → Int × Nat} {c0 c : Cu} (h : Left T R c0 c) (hc : c.code ≠ 0) : RdF T c0 c := h.2 c (RdF.stay R h.1 hc)
theorem RdF.congr {R G : List UInt8 → Int × Nat} {c c' : Cu} (h : RdF R c c') (e : R c.ahead = G c.ahead) : RdF G c c' := by
  unfold RdF at *; rw [← e]; exact h
end Go.Proofs.Ytgfdmdikiickpaa
