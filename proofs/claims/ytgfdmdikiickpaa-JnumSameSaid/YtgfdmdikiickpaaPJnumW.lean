/-
  JSON's numbers: which whole number one is worth, as a plain function.
-/
import Derived.Test.YtgfdmdikiickpaaPJnumB
import Derived.Test.YtgfdmdikiickpaaPDeci
namespace Go.Proofs.Ytgfdmdikiickpaa
open Go.RowKit

def capF : Int := 1099511627776
def powA (n : Int) (l : List UInt8) : Int := l.foldl (fun n b => min capF (10 * n + (bi b - 48))) n
def unS : List UInt8 → List UInt8
  | [] => []
  | b :: r => if b = 43 ∨ b = 45 then r else b :: r
def powV (p : List UInt8) : Int := if byteAt p 0 = 45 then - powA 0 (unS p) else powA 0 (unS p)
def dropZ : List UInt8 → List UInt8
  | [] => []
  | b :: r => if b = 48 then dropZ r else b :: r
def zerosN (d : List UInt8) : Nat := (d.reverse.takeWhile (· == 48)).length
def numOk (s : List UInt8) : Bool := decide (pC3 s = 0 ∧ pE3 s = s.length)
def numD (s : List UInt8) : List UInt8 := dropZ (pWhole s ++ pBehind s)
def numN (s : List UInt8) : Int := powV (pPower s) - (pBehind s).length
def numT (m : Bool) (d : List UInt8) (n : Int) : List UInt8 := (if m = true then [45] else []) ++ (if n < 0 then d.take ((d.length : Int) + n).toNat else d ++ List.replicate n.toNat 48)
def wholeJ (s : List UInt8) : Int × Int :=
  if numOk s = true then
    (if numD s = [] then (0, 0)
     else if numN s < - (zerosN (numD s) : Int) then (0, 7)
     else if 20 < ((numD s).length : Int) + numN s then (0, 4)
     else (intVal (numT (decide (pN0 s = 1)) (numD s) (numN s)), intCode (numT (decide (pN0 s = 1)) (numD s) (numN s))))
  else (0, 3)
theorem powA_snoc (n : Int) (l : List UInt8) (b : UInt8) : powA n (l ++ [b]) = min capF (10 * powA n l + (bi b - 48)) := by simp [powA]
theorem powA_take (l : List UInt8) (k : Nat) (h : k < l.length) : powA 0 (l.take (k + 1)) = min capF (10 * powA 0 (l.take k) + (byteAt l k - 48)) := by
  rw [List.take_succ_eq_append_getElem h, powA_snoc, byteAt_getElem l k h]
theorem powA_bd (l : List UInt8) (hd : Digs l) : ∀ k, k ≤ l.length → 0 ≤ powA 0 (l.take k) ∧ powA 0 (l.take k) ≤ capF
  | 0, _ => by simp [powA, capF]
  | k + 1, h => by
    have ih := powA_bd l hd k (by omega)
    have hk := hd k (by omega)
    rw [powA_take l k (by omega)]
    unfold capF at *
    omega
theorem digs_run : ∀ a : List UInt8, Digs (a.take (runD a))
  | [] => by simp [runD]; exact Digs.nil
  | b :: r => by
    have ih := digs_run r
    simp only [runD]
    split
    · rename_i h
      have hb : 48 ≤ bi b ∧ bi b ≤ 57 := of_decide_eq_true h
      rw [List.take_succ_cons]
      intro j hj
      cases j with
      | zero => exact hb
      | succ j =>
        rw [byteAt_cons']
        exact ih j (by simpa using hj)
    · simp; exact Digs.nil
theorem digs_digR (a : List UInt8) : Digs (a.take (digR a).2) := by
  unfold digR
  split
  · split <;> (simp; exact Digs.nil)
  · exact digs_run a
theorem digs_whole (s : List UInt8) : Digs (pWhole s) := by
  unfold pWhole pR1 wholeR
  split
  · rename_i h
    cases hq : s.drop (pN0 s) with
    | nil => simp; exact Digs.nil
    | cons b r =>
      rw [hq] at h
      simp only [eatN] at h
      split at h
      · rename_i hb
        have : b = 48 := by simpa using hb
        subst this
        show Digs [48]
        decide
      · cases h
  · exact digs_digR _
theorem digs_behind (s : List UInt8) : Digs (pBehind s) := by
  unfold pBehind
  split
  · exact digs_digR _
  · exact Digs.nil
theorem eatN_cons {m a : List UInt8} (h : eatN m a = 1) : ∃ b r, a = b :: r ∧ b ∈ m := by
  cases a with
  | nil => cases h
  | cons b r =>
    simp only [eatN] at h
    split at h
    · rename_i hb; exact ⟨b, r, rfl, hb⟩
    · cases h
theorem drop_tail {s : List UInt8} {k : Nat} {b : UInt8} {r : List UInt8} (h : s.drop k = b :: r) : s.drop (k + 1) = r := by
  rw [← List.drop_drop, h]; rfl
theorem numOk_iff {s : List UInt8} (h : numOk s = true) : pC3 s = 0 ∧ pE3 s = s.length := of_decide_eq_true h
/-- What a number's text is. -/
theorem num_shape {s : List UInt8} (h : numOk s = true) :
    ∃ de dx : List UInt8, s.drop (pN0 s) = pWhole s ++ de ++ dx ∧ (pDot s = true → de = 46 :: pBehind s) ∧ (pDot s = false → de = [] ∧ pBehind s = []) ∧
      (pExp s = true → ∃ x, (x = 101 ∨ x = 69) ∧ dx = x :: pPower s ∧ pPower s ≠ [] ∧ Digs (unS (pPower s))) ∧ (pExp s = false → dx = [] ∧ pPower s = []) := by
  obtain ⟨hc, he⟩ := numOk_iff h
  have hx0 : s.drop (pE3 s) = [] := by rw [he]; simp
  have e1 : s.drop (pN0 s) = pWhole s ++ s.drop (pE1 s) := by
    unfold pWhole pE1
    rw [← List.drop_drop, List.take_append_drop]
  have hdot : ∃ de, s.drop (pE1 s) = de ++ s.drop (pE2 s) ∧ (pDot s = true → de = 46 :: pBehind s) ∧ (pDot s = false → de = [] ∧ pBehind s = []) := by
    cases hd : pDot s with
    | true =>
      obtain ⟨b, r, e2, hb⟩ := eatN_cons (of_decide_eq_true hd).2
      have : b = 46 := by simpa using hb
      subst this
      refine ⟨46 :: pBehind s, ?_, fun _ => rfl, (fun h => by cases h)⟩
      have h2 : pE2 s = pE1 s + 1 + (pR2 s).2 := by unfold pE2; rw [if_pos hd]
      have h3 : pBehind s = (s.drop (pE1 s + 1)).take (pR2 s).2 := by unfold pBehind; rw [if_pos hd]
      have hq : (s.drop (pE1 s + 1)).take (pR2 s).2 ++ s.drop (pE1 s + 1 + (pR2 s).2) = r := by
        rw [show s.drop (pE1 s + 1 + (pR2 s).2) = (s.drop (pE1 s + 1)).drop (pR2 s).2 by rw [List.drop_drop], List.take_append_drop]
        exact drop_tail e2
      rw [e2, h2, h3, List.cons_append, hq]
    | false =>
      have h2 : pE2 s = pE1 s := by unfold pE2; rw [hd]; rfl
      have h3 : pBehind s = [] := by unfold pBehind; rw [hd]; rfl
      exact ⟨[], (by rw [h2]; rfl), (fun h => by cases h), fun _ => ⟨rfl, h3⟩⟩
  obtain ⟨de, e2, d1, d2⟩ := hdot
  have hex : (pExp s = true → ∃ x, (x = 101 ∨ x = 69) ∧ s.drop (pE2 s) = x :: pPower s ∧ pPower s ≠ [] ∧ Digs (unS (pPower s))) ∧ (pExp s = false → s.drop (pE2 s) = [] ∧ pPower s = []) := by
    refine ⟨fun hp => ?_, fun hp => ?_⟩
    · obtain ⟨x, r, e3, hx⟩ := eatN_cons (of_decide_eq_true hp).2
      have hx' : x = 101 ∨ x = 69 := by simpa using hx
      have h2 : pE3 s = pE2 s + 1 + pN3 s + (pR3 s).2 := by unfold pE3; rw [if_pos hp]
      have h3 : pPower s = (s.drop (pE2 s + 1)).take (pN3 s + (pR3 s).2) := by unfold pPower; rw [if_pos hp]
      have h4 : pC3 s = (pR3 s).1 := by unfold pC3; rw [if_pos hp]
      have hall : s.drop (pE2 s + 1) = pPower s := by
        rw [h3]
        have : (s.drop (pE2 s + 1)).drop (pN3 s + (pR3 s).2) = [] := by rw [List.drop_drop, ← hx0, h2]; congr 1; omega
        have := List.take_append_drop (pN3 s + (pR3 s).2) (s.drop (pE2 s + 1))
        rw [‹List.drop (pN3 s + (pR3 s).2) (s.drop (pE2 s + 1)) = []›, List.append_nil] at this
        exact this.symm
      have hr3 : (digR (s.drop (pE2 s + 1 + pN3 s))).1 = 0 := by
        have hq : (pR3 s).1 = 0 := by rw [← h4]; exact hc
        exact hq
      have hrun : runD (s.drop (pE2 s + 1 + pN3 s)) ≠ 0 ∧ (pR3 s).2 = runD (s.drop (pE2 s + 1 + pN3 s)) := by
        unfold digR at hr3
        unfold pR3 digR
        split at hr3
        · split at hr3 <;> exact absurd hr3 (by decide)
        · rename_i hn; rw [if_neg hn]; exact ⟨hn, rfl⟩
      have hdd : (s.drop (pE2 s + 1)).drop (pN3 s) = s.drop (pE2 s + 1 + pN3 s) := List.drop_drop
      rw [hall] at hdd
      have hlen : (pPower s).length = pN3 s + (pR3 s).2 := by
        have hl := congrArg List.length hall
        rw [List.length_drop] at hl
        have h5 := pexp_len hp
        have h6 := (pE3_le s).2
        omega
      have hds : Digs ((pPower s).drop (pN3 s)) := by
        have hq := digs_run ((pPower s).drop (pN3 s))
        rw [hdd] at hq
        rw [hdd]
        have hll : (s.drop (pE2 s + 1 + pN3 s)).length = (pR3 s).2 := by rw [← hdd, List.length_drop, hlen]; omega
        rw [List.take_of_length_le (by rw [hll, hrun.2]; exact Nat.le_refl _)] at hq
        exact hq
      refine ⟨x, hx', by rw [e3, ← drop_tail e3, hall], ?_, ?_⟩
      · intro hnil
        rw [hnil] at hlen
        simp at hlen
        have := hrun.2
        have := hrun.1
        omega
      · have hn3 : pN3 s = eatN [43, 45] (pPower s) := by unfold pN3; rw [hall]
        cases hpw : pPower s with
        | nil => exact Digs.nil
        | cons b r =>
          rw [hpw] at hn3 hds
          simp only [eatN] at hn3
          show Digs (if b = 43 ∨ b = 45 then r else b :: r)
          by_cases hb : b = 43 ∨ b = 45
          · rw [if_pos hb]
            rw [if_pos (by simpa using hb)] at hn3
            rw [hn3] at hds
            exact hds
          · rw [if_neg hb]
            rw [if_neg (by simpa using hb)] at hn3
            rw [hn3] at hds
            exact hds
    · have h2 : pE3 s = pE2 s := by unfold pE3; rw [hp]; rfl
      have h3 : pPower s = [] := by unfold pPower; rw [hp]; rfl
      exact ⟨by rw [← h2]; exact hx0, h3⟩
  exact ⟨de, s.drop (pE2 s), by rw [e1, e2, List.append_assoc], d1, d2, hex.1, hex.2⟩
end Go.Proofs.Ytgfdmdikiickpaa
