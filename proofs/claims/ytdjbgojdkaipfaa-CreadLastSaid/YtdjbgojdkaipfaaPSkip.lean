/-
  What is gone past, as plain functions of the bytes ahead.
-/
import Derived.Test.YtdjbgojdkaipfaaHeadRefD
namespace Go.Proofs.Ytdjbgojdkaipfaa
open Go.RowKit

def seqR (r : Int × Nat) (g : List UInt8 → Int × Nat) (a : List UInt8) : Int × Nat :=
  if r.1 = 0 then ((g (a.drop r.2)).1, r.2 + (g (a.drop r.2)).2) else (r.1, 0)
/-- A reading of the bytes ahead moves a cursor as R says. -/
def RdF (R : List UInt8 → Int × Nat) (c c' : Cu) : Prop := Rd c c' (R c.ahead).1 (R c.ahead).2
theorem Cu.move0 (c : Cu) : ({ c with pos := c.pos + 0 } : Cu) = c := rfl
theorem RdF.seq {R G : List UInt8 → Int × Nat} {c c1 c2 : Cu} (h1 : RdF R c c1) (h2 : RdF G c1 c2) : RdF (fun a => seqR (R a) G a) c c2 := by
  refine ⟨h2.s.trans h1.s, h2.en.trans h1.en, h2.fit, fun hb => ?_, fun h0 => ?_⟩
  · have e1 := h1.bad hb
    subst e1
    exact h2.bad hb
  · obtain ⟨k1, p1⟩ := h1.good h0
    by_cases hk : (R c.ahead).1 = 0
    · have e := p1 hk
      have hc1 : c1.code = 0 := k1.trans hk
      obtain ⟨k2, p2⟩ := h2.good hc1
      have ha : c1.ahead = c.ahead.drop (R c.ahead).2 := by rw [e]; exact (ahead_drop c _).symm
      rw [ha] at k2 p2
      simp only [seqR, if_pos hk]
      refine ⟨k2, fun hz => ?_⟩
      rw [p2 hz, e]
      simp only [Nat.add_assoc]
    · have hc1 : c1.code ≠ 0 := by rw [k1]; exact hk
      have e2 := h2.bad hc1
      simp only [seqR, if_neg hk]
      exact ⟨by rw [e2, k1], fun hz => absurd hz hk⟩
theorem RdF.nil {c : Cu} (hf : c.fit) : RdF (fun _ => (0, 0)) c c := ⟨rfl, rfl, hf, fun _ => rfl, fun h => ⟨h, fun _ => rfl⟩⟩
theorem RdF.stay {c : Cu} (R : List UInt8 → Int × Nat) (hf : c.fit) (h : c.code ≠ 0) : RdF R c c := ⟨rfl, rfl, hf, fun _ => rfl, fun h0 => absurd h0 h⟩
theorem RdF.of_eq {R G : List UInt8 → Int × Nat} {c c' : Cu} (h : RdF R c c') (e : c.code = 0 → (R c.ahead).1 = (G c.ahead).1 ∧ ((R c.ahead).1 = 0 → (R c.ahead).2 = (G c.ahead).2)) : RdF G c c' := by
  refine ⟨h.s, h.en, h.fit, h.bad, fun h0 => ?_⟩
  obtain ⟨k, p⟩ := h.good h0
  obtain ⟨e1, e2⟩ := e h0
  refine ⟨k.trans e1, fun hz => ?_⟩
  rw [p (e1.trans hz), e2 (e1.trans hz)]
theorem RdF.fail {c : Cu} (n : Int) (hn : n ≠ 0) (hf : c.fit) : RdF (fun _ => (n, 0)) c (c.fail n) := by
  refine ⟨?_, ?_, ?_, fun h => ?_, fun h => ?_⟩
  · unfold Cu.fail; split <;> rfl
  · unfold Cu.fail; split <;> rfl
  · unfold Cu.fail; split
    · exact ⟨hf.le1, hf.le2, hf.le3⟩
    · exact hf
  · unfold Cu.fail; rw [if_neg h]
  · unfold Cu.fail; rw [if_pos h]
    exact ⟨rfl, fun hz => absurd hz hn⟩
theorem ahead_length {c : Cu} (hf : c.fit) : c.ahead.length = c.en - c.pos := by
  have := hf.le2
  show ((c.s.take c.en).drop c.pos).length = _
  rw [List.length_drop, List.length_take]; omega
def takeR (n : Nat) (a : List UInt8) : Int × Nat := if a.length < n then (1, 0) else (0, n)
theorem rd_take {c : Cu} (n : Nat) (hf : c.fit) : RdF (takeR n) c (c.take (n : Int)) := by
  have hl := ahead_length hf
  have l1 := hf.le1
  refine ⟨Cu.take_s _ _, ?_, Cu.take_fit hf _, fun h => Cu.take_bad h _, fun h => ?_⟩
  · unfold Cu.take; split <;> rfl
  · unfold takeR
    by_cases hn : c.ahead.length < n
    · have hw : c.why (n : Int) = 1 := by
        unfold Cu.why
        rw [if_neg (by simpa using h), if_neg (by omega), if_pos (by omega)]
      rw [if_pos hn, Cu.take, hw]
      exact ⟨rfl, fun hz => absurd hz (by decide)⟩
    · have hw : c.why (n : Int) = 0 := by
        unfold Cu.why
        rw [if_neg (by simpa using h), if_neg (by omega), if_neg (by omega)]
      rw [if_neg hn, Cu.take, hw]
      exact ⟨h, fun _ => rfl⟩
def varR (a : List UInt8) : Int × Nat := (vcode a, vlen 10 a)
theorem rd_var {c c' : Cu} {u : Int} (h : VRd c c' u) : RdF varR c c' :=
  ⟨h.s, h.en, h.fit, fun hb => (h.bad hb).1, fun h0 => ⟨(h.good h0).1, fun hz => (h.good h0).2.2 hz⟩⟩
def textR (a : List UInt8) : Int × Nat :=
  if vcode a = 0 then (if ((a.length - vlen 10 a : Nat) : Int) < vnum a then (1, 0) else (0, vlen 10 a + (vnum a).toNat)) else (vcode a, 0)
def truthR : List UInt8 → Int × Nat
  | [] => (1, 0)
  | b :: _ => if 2 < bi b then (3, 0) else (0, 1)
def innerR (v : Int → List UInt8 → Int × Nat) (k : Int) (a : List UInt8) : Int × Nat := if k = 1 ∨ k = 2 then truthR a else v k a
def itemsR (f : List UInt8 → Int × Nat) : Nat → List UInt8 → Int × Nat
  | 0, _ => (0, 0)
  | n + 1, a => seqR (f a) (itemsR f n) a
def pairR (v : Int → List UInt8 → Int × Nat) (k j : Int) (a : List UInt8) : Int × Nat := seqR (innerR v k a) (innerR v j) a
def fieldsR (v : Int → List UInt8 → Int × Nat) : Nat → Int → List UInt8 → Int × Nat
  | 0, _, _ => (1, 0)
  | n + 1, last, a =>
    if (fieldR last a).1 = 0 then
      (if (fieldR last a).2.2.2 = 0 then (0, (fieldR last a).2.1)
       else seqR (0, (fieldR last a).2.1) (fun b => seqR (v (fieldR last a).2.2.2 b) (fieldsR v n (fieldR last a).2.2.1) b) a)
    else ((fieldR last a).1, 0)
def listsR (v : Int → List UInt8 → Int × Nat) (a : List UInt8) : Int × Nat :=
  seqR ((listR a).1, (listR a).2.1) (itemsR (innerR v (listR a).2.2.2) (listR a).2.2.1.toNat) a
def mapsR (v : Int → List UInt8 → Int × Nat) (a : List UInt8) : Int × Nat :=
  seqR ((mapR a).1, (mapR a).2.1) (itemsR (pairR v (mapR a).2.2.2.1 (mapR a).2.2.2.2) (mapR a).2.2.1.toNat) a
def structR (v : Int → List UInt8 → Int × Nat) (a : List UInt8) : Int × Nat := fieldsR v (a.length + 1) 0 a
def heldR (v : Int → List UInt8 → Int × Nat) (k : Int) (a : List UInt8) : Int × Nat :=
  if k = 12 then structR v a else if k = 11 then mapsR v a else listsR v a
def flatR (h : Int → List UInt8 → Int × Nat) (k : Int) (a : List UInt8) : Int × Nat :=
  if k = 1 ∨ k = 2 then (0, 0) else if k = 3 then takeR 1 a else if 4 ≤ k ∧ k ≤ 6 then varR a else if k = 7 then takeR 8 a else if k = 8 then textR a
  else if 9 ≤ k ∧ k ≤ 12 then h k a else (7, 0)
/-- A value of a kind, where so many levels are left. -/
def skipV : Nat → Int → List UInt8 → Int × Nat
  | 0 => flatR (fun _ _ => (33, 0))
  | n + 1 => flatR (heldR (skipV n))
theorem fieldR_pos (last : Int) (a : List UInt8) (h : (fieldR last a).1 = 0) : 1 ≤ (fieldR last a).2.1 ∧ (fieldR last a).2.1 ≤ a.length := by
  cases a with
  | nil => exact absurd (show (1 : Int) = 0 from h) (by decide)
  | cons b r =>
    have hl := vlen_le 10 r
    revert h
    simp only [fieldR, List.length_cons]
    split
    · intro _; exact ⟨Nat.le_refl _, by show 1 ≤ r.length + 1; omega⟩
    · split
      · intro h; exact absurd h (by decide)
      · split
        · split
          · intro _; exact ⟨Nat.le_refl _, by show 1 ≤ r.length + 1; omega⟩
          · intro h; exact absurd h (by decide)
        · split
          · split
            · intro _; exact ⟨by show 1 ≤ 1 + vlen 10 r; omega, by show 1 + vlen 10 r ≤ r.length + 1; omega⟩
            · intro h; exact absurd h (by decide)
          · intro h; rename_i h1; exact absurd h h1
theorem fieldR_kind (last : Int) (a : List UInt8) : 0 ≤ (fieldR last a).2.2.2 ∧ (fieldR last a).2.2.2 ≤ 15 := by
  have hz : (0 : Int) ≤ 0 ∧ (0 : Int) ≤ 15 := by decide
  cases a with
  | nil => exact hz
  | cons b r =>
    have hb : 0 ≤ bi b % 16 ∧ bi b % 16 ≤ 15 := by omega
    simp only [fieldR]
    split
    · exact hz
    · split
      · exact hz
      · split
        · split
          · exact hb
          · exact hz
        · split
          · split
            · exact hb
            · exact hz
          · exact hz
theorem fieldR_id (last : Int) (a : List UInt8) : -32768 ≤ (fieldR last a).2.2.1 ∧ (fieldR last a).2.2.1 ≤ 32767 := by
  have hz : (-32768 : Int) ≤ 0 ∧ (0 : Int) ≤ 32767 := by decide
  cases a with
  | nil => exact hz
  | cons b r =>
    simp only [fieldR]
    split
    · exact hz
    · split
      · exact hz
      · split
        · split
          · rename_i h; simpa [inR] using h
          · exact hz
        · split
          · split
            · rename_i h; simpa [inR] using h
            · exact hz
          · exact hz
theorem fields_fuel (v : Int → List UInt8 → Int × Nat) (n : Nat) : ∀ (last : Int) (a : List UInt8), a.length < n → fieldsR v (n + 1) last a = fieldsR v n last a := by
  induction n with
  | zero => intro last a h; omega
  | succ n ih =>
    intro last a h
    rw [fieldsR, fieldsR]
    by_cases h0 : (fieldR last a).1 = 0
    · rw [if_pos h0, if_pos h0]
      by_cases hk : (fieldR last a).2.2.2 = 0
      · rw [if_pos hk, if_pos hk]
      · rw [if_neg hk, if_neg hk]
        obtain ⟨p1, p2⟩ := fieldR_pos last a h0
        simp only [seqR, if_true]
        rw [ih _ _ (by simp only [List.length_drop]; omega)]
    · rw [if_neg h0, if_neg h0]
theorem fields_fuels (v : Int → List UInt8 → Int × Nat) (last : Int) (a : List UInt8) (n : Nat) (h : a.length < n) : fieldsR v n last a = fieldsR v (a.length + 1) last a := by
  obtain ⟨m, rfl⟩ : ∃ m, n = a.length + 1 + m := ⟨n - (a.length + 1), by omega⟩
  clear h
  induction m with
  | zero => rfl
  | succ m ih => rw [← ih]; exact fields_fuel v (a.length + 1 + m) last a (by omega)
end Go.Proofs.Ytdjbgojdkaipfaa
