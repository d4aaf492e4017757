/-
  JSON's numbers: their parts, as plain functions of the bytes ahead.
-/
import Derived.Test.YtgfdmdikiickpaaPJnum
namespace Go.Proofs.Ytgfdmdikiickpaa
open Go.RowKit

def pN0 (a : List UInt8) : Nat := eatN [45] a
def pR1 (a : List UInt8) : Int × Nat := wholeR (a.drop (pN0 a))
def pE1 (a : List UInt8) : Nat := pN0 a + (pR1 a).2
def pDot (a : List UInt8) : Bool := decide ((pR1 a).1 = 0 ∧ eatN [46] (a.drop (pE1 a)) = 1)
def pR2 (a : List UInt8) : Int × Nat := digR (a.drop (pE1 a + 1))
def pE2 (a : List UInt8) : Nat := if pDot a = true then pE1 a + 1 + (pR2 a).2 else pE1 a
def pC2 (a : List UInt8) : Int := if pDot a = true then (pR2 a).1 else (pR1 a).1
def pExp (a : List UInt8) : Bool := decide (pC2 a = 0 ∧ eatN [101, 69] (a.drop (pE2 a)) = 1)
def pN3 (a : List UInt8) : Nat := eatN [43, 45] (a.drop (pE2 a + 1))
def pR3 (a : List UInt8) : Int × Nat := digR (a.drop (pE2 a + 1 + pN3 a))
def pE3 (a : List UInt8) : Nat := if pExp a = true then pE2 a + 1 + pN3 a + (pR3 a).2 else pE2 a
def pC3 (a : List UInt8) : Int := if pExp a = true then (pR3 a).1 else pC2 a
def pWhole (a : List UInt8) : List UInt8 := (a.drop (pN0 a)).take (pR1 a).2
def pBehind (a : List UInt8) : List UInt8 := if pDot a = true then (a.drop (pE1 a + 1)).take (pR2 a).2 else []
def pPower (a : List UInt8) : List UInt8 := if pExp a = true then (a.drop (pE2 a + 1)).take (pN3 a + (pR3 a).2) else []
theorem digR_bd (a : List UInt8) : (digR a).2 ≤ a.length ∧ ((digR a).1 = 0 ∨ (digR a).1 = 1 ∨ (digR a).1 = 3) ∧ ((digR a).1 ≠ 0 → (digR a).2 = 0) := by
  have := runD_le a
  unfold digR
  split
  · split <;> simp
  · exact ⟨this, .inl rfl, fun h => absurd rfl h⟩
theorem wholeR_bd (a : List UInt8) : (wholeR a).2 ≤ a.length ∧ ((wholeR a).1 = 0 ∨ (wholeR a).1 = 1 ∨ (wholeR a).1 = 3) ∧ ((wholeR a).1 ≠ 0 → (wholeR a).2 = 0) := by
  unfold wholeR
  split
  · rename_i h
    have := (eatN_le [48] a).2
    exact ⟨by show 1 ≤ a.length; omega, .inl rfl, fun h => absurd rfl h⟩
  · exact digR_bd a
theorem seqR_1 (r : Int × Nat) (g : List UInt8 → Int × Nat) (a : List UInt8) : (seqR r g a).1 = if r.1 = 0 then (g (a.drop r.2)).1 else r.1 := by unfold seqR; split <;> rfl
theorem seqR_2 (r : Int × Nat) (g : List UInt8 → Int × Nat) (a : List UInt8) : (seqR r g a).2 = if r.1 = 0 then r.2 + (g (a.drop r.2)).2 else 0 := by unfold seqR; split <;> rfl
theorem fracR_eq (a : List UInt8) (h : (pR1 a).1 = 0) : fracR (a.drop (pE1 a)) = if pDot a = true then seqR (0, 1) digR (a.drop (pE1 a)) else (0, 0) := by
  unfold fracR pDot
  by_cases q : eatN [46] (a.drop (pE1 a)) = 1
  · rw [if_pos q, if_pos (decide_eq_true ⟨h, q⟩)]
  · rw [if_neg q, if_neg (by simp [q])]
theorem num_parts (a : List UInt8) : (numR a).1 = pC3 a ∧ (pC3 a = 0 → (numR a).2 = pE3 a) := by
  have key : numR a = seqR (0, pN0 a) (fun b => seqR (wholeR b) (fun d => seqR (fracR d) expR d) b) a := rfl
  rw [key]
  rw [seqR_1, seqR_2]
  simp only [if_true]
  show (seqR (pR1 a) (fun d => seqR (fracR d) expR d) (a.drop (pN0 a))).1 = pC3 a ∧ (pC3 a = 0 → pN0 a + (seqR (pR1 a) (fun d => seqR (fracR d) expR d) (a.drop (pN0 a))).2 = pE3 a)
  rw [seqR_1, seqR_2]
  have e1 : (a.drop (pN0 a)).drop (pR1 a).2 = a.drop (pE1 a) := by rw [List.drop_drop]; rfl
  rw [e1]
  by_cases h1 : (pR1 a).1 = 0
  case neg =>
    have hd : pDot a = false := decide_eq_false (fun h => h1 h.1)
    have hc2 : pC2 a = (pR1 a).1 := by unfold pC2; rw [hd]; rfl
    have hx : pExp a = false := decide_eq_false (fun h => h1 (by rw [← hc2]; exact h.1))
    have hc3 : pC3 a = (pR1 a).1 := by unfold pC3; rw [hx, hc2]; rfl
    rw [if_neg h1, hc3]
    exact ⟨rfl, fun h => absurd h h1⟩
  rw [if_pos h1, if_pos h1]
  rw [seqR_1, seqR_2, fracR_eq a h1]
  -- what stands behind the dot
  have hfr : (if pDot a = true then seqR (0, 1) digR (a.drop (pE1 a)) else (0, 0)).1 = pC2 a ∧ (pC2 a = 0 → pE1 a + (if pDot a = true then seqR (0, 1) digR (a.drop (pE1 a)) else (0, 0)).2 = pE2 a) := by
    unfold pC2 pE2
    by_cases hd : pDot a = true
    · rw [if_pos hd, if_pos hd, if_pos hd, seqR_1, seqR_2]
      simp only [if_true]
      rw [List.drop_drop]
      refine ⟨rfl, fun _ => ?_⟩
      show pE1 a + (1 + (digR (a.drop (pE1 a + 1))).2) = pE1 a + 1 + (pR2 a).2
      unfold pR2; omega
    · rw [if_neg hd, if_neg hd, if_neg hd]
      exact ⟨h1.symm, fun _ => rfl⟩
  obtain ⟨f1, f2⟩ := hfr
  generalize (if pDot a = true then seqR (0, 1) digR (a.drop (pE1 a)) else (0, 0)) = fr at f1 f2
  by_cases h2 : pC2 a = 0
  case neg =>
    have hx : pExp a = false := decide_eq_false (fun h => h2 h.1)
    have hc3 : pC3 a = pC2 a := by unfold pC3; rw [hx]; rfl
    rw [if_neg (by rw [f1]; exact h2), hc3]
    exact ⟨f1, fun h => absurd h h2⟩
  have e2 : (a.drop (pE1 a)).drop fr.2 = a.drop (pE2 a) := by rw [List.drop_drop, f2 h2]
  rw [if_pos (by rw [f1]; exact h2), if_pos (by rw [f1]; exact h2), e2]
  have f2' := f2 h2
  have hpe : pN0 a + ((pR1 a).2 + (fr.2 + (expR (a.drop (pE2 a))).2)) = pE2 a + (expR (a.drop (pE2 a))).2 := by
    have : pE1 a = pN0 a + (pR1 a).2 := rfl
    omega
  rw [hpe]
  unfold expR pC3 pE3
  by_cases q : eatN [101, 69] (a.drop (pE2 a)) = 1
  · have hx : pExp a = true := decide_eq_true ⟨h2, q⟩
    rw [if_pos q, if_pos hx, if_pos hx, seqR_1, seqR_2]
    simp only [if_true]
    rw [List.drop_drop, seqR_1, seqR_2]
    simp only [if_true]
    show (digR ((a.drop (pE2 a + 1)).drop (pN3 a))).1 = (pR3 a).1 ∧ _
    rw [List.drop_drop]
    refine ⟨rfl, fun _ => ?_⟩
    show pE2 a + (1 + (pN3 a + (digR ((a.drop (pE2 a + 1)).drop (pN3 a))).2)) = pE2 a + 1 + pN3 a + (pR3 a).2
    rw [List.drop_drop]
    unfold pR3; omega
  · have hx : pExp a = false := decide_eq_false (fun h => q h.2)
    rw [if_neg q, hx]
    exact ⟨h2.symm, fun _ => rfl⟩
theorem pdot_len {a : List UInt8} (h : pDot a = true) : pE1 a + 1 ≤ a.length := by
  have h1 := (of_decide_eq_true h).2
  have := (eatN_le [46] (a.drop (pE1 a))).2
  rw [h1, List.length_drop] at this
  omega
theorem pexp_len {a : List UInt8} (h : pExp a = true) : pE2 a + 1 ≤ a.length := by
  have h1 := (of_decide_eq_true h).2
  have := (eatN_le [101, 69] (a.drop (pE2 a))).2
  rw [h1, List.length_drop] at this
  omega
theorem pE1_le (a : List UInt8) : pE1 a ≤ a.length := by
  have h1 := (wholeR_bd (a.drop (pN0 a))).1
  rw [List.length_drop] at h1
  have h2 : pN0 a ≤ a.length := (eatN_le [45] a).2
  unfold pE1 pR1
  omega
theorem pE2_le (a : List UInt8) : pE1 a ≤ pE2 a ∧ pE2 a ≤ a.length := by
  have h1 := pE1_le a
  unfold pE2
  split
  · rename_i h
    have h2 := pdot_len h
    have h3 := (digR_bd (a.drop (pE1 a + 1))).1
    rw [List.length_drop] at h3
    unfold pR2
    omega
  · omega
theorem pE3_le (a : List UInt8) : pE2 a ≤ pE3 a ∧ pE3 a ≤ a.length := by
  have h1 := (pE2_le a).2
  unfold pE3
  split
  · rename_i h
    have h2 := pexp_len h
    have h3 : pN3 a ≤ a.length - (pE2 a + 1) := by
      have := (eatN_le [43, 45] (a.drop (pE2 a + 1))).2
      rw [List.length_drop] at this
      exact this
    have h4 := (digR_bd (a.drop (pE2 a + 1 + pN3 a))).1
    rw [List.length_drop] at h4
    unfold pR3
    omega
  · omega
end Go.Proofs.Ytgfdmdikiickpaa
