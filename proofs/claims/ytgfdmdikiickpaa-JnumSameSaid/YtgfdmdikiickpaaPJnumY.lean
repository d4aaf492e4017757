/-
  JSON's numbers: the noughts at the end, and the text of the whole number.
-/
import Derived.Test.YtgfdmdikiickpaaPJnumW
namespace Go.Proofs.Ytgfdmdikiickpaa
open Go.RowKit

theorem takeW_at : ∀ (l : List UInt8) (k : Nat), k < (l.takeWhile (· == 48)).length → byteAt l k = 48
  | [], k, h => by simp at h
  | b :: r, k, h => by
    simp only [List.takeWhile_cons] at h
    split at h
    · rename_i hb
      have hb : b = 48 := by simpa using hb
      subst hb
      cases k with
      | zero => rfl
      | succ k => rw [byteAt_cons']; exact takeW_at r k (by simpa using h)
    · simp at h
theorem takeW_end : ∀ (l : List UInt8), (l.takeWhile (· == 48)).length < l.length → byteAt l (l.takeWhile (· == 48)).length ≠ 48
  | [], h => by simp at h
  | b :: r, h => by
    simp only [List.takeWhile_cons] at h ⊢
    split at h
    · rename_i hb
      rw [if_pos hb, List.length_cons, byteAt_cons']
      exact takeW_end r (by simpa using h)
    · rename_i hb
      rw [if_neg hb]
      intro e
      have : b = 48 := bi_inj (by exact e)
      exact hb (by simp [this])
theorem takeW_le (l : List UInt8) : (l.takeWhile (· == 48)).length ≤ l.length := by
  induction l with
  | nil => simp
  | cons b r ih =>
    simp only [List.takeWhile_cons]
    split <;> simp <;> omega
theorem byteAt_rev (l : List UInt8) (k : Nat) (h : k < l.length) : byteAt l.reverse k = byteAt l (l.length - 1 - k) := by
  rw [byteAt_getElem _ _ (by simpa using h), byteAt_getElem _ _ (by omega), List.getElem_reverse]
theorem zerosN_le (d : List UInt8) : zerosN d ≤ d.length := by
  have := takeW_le d.reverse
  simpa [zerosN] using this
theorem zerosN_at {d : List UInt8} {k : Nat} (h : k < zerosN d) : byteAt d (d.length - 1 - k) = 48 := by
  have h1 := zerosN_le d
  rw [← byteAt_rev d k (by omega)]
  exact takeW_at _ _ h
theorem zerosN_end {d : List UInt8} (h : zerosN d < d.length) : byteAt d (d.length - 1 - zerosN d) ≠ 48 := by
  rw [← byteAt_rev d _ h]
  exact takeW_end _ (by simpa [zerosN] using h)
theorem zerosN_lt {d : List UInt8} (hd : d ≠ []) (h0 : byteAt d 0 ≠ 48) : zerosN d < d.length := by
  have h1 := zerosN_le d
  rcases Nat.lt_or_ge (zerosN d) d.length with h | h
  · exact h
  · have hp := List.length_pos_iff.2 hd
    have := zerosN_at (d := d) (k := d.length - 1) (by omega)
    rw [show d.length - 1 - (d.length - 1) = 0 by omega] at this
    exact absurd this h0
theorem dropZ_head : ∀ l : List UInt8, dropZ l ≠ [] → byteAt (dropZ l) 0 ≠ 48
  | [], h => absurd rfl h
  | b :: r, h => by
    unfold dropZ at h ⊢
    split
    · rename_i hb; rw [if_pos hb] at h; exact dropZ_head r h
    · rename_i hb
      intro e
      exact hb (bi_inj (by exact e))
theorem dropZ_len : ∀ l : List UInt8, (dropZ l).length ≤ l.length
  | [] => Nat.le_refl _
  | b :: r => by
    have := dropZ_len r
    unfold dropZ
    split <;> simp <;> omega
theorem dropZ_digs : ∀ l : List UInt8, Digs l → Digs (dropZ l)
  | [], h => h
  | b :: r, h => by
    unfold dropZ
    split
    · exact dropZ_digs r h.cons.2.2
    · exact h
theorem digs_app {a b : List UInt8} (h : Digs a) (k : Digs b) : Digs (a ++ b) := by
  intro j hj
  rcases Nat.lt_or_ge j a.length with q | q
  · rw [byteAt_app_left _ _ _ q]; exact h j q
  · rw [byteAt_app_right _ _ _ q]; exact k _ (by simp at hj; omega)
theorem digs_numD (s : List UInt8) : Digs (numD s) := dropZ_digs _ (digs_app (digs_whole s) (digs_behind s))
theorem digs_rep (n : Nat) : Digs (List.replicate n 48) := by
  intro j hj
  rw [byteAt_getElem _ _ hj, List.getElem_replicate]
  decide
theorem powA_bd' (l : List UInt8) (hd : Digs l) : 0 ≤ powA 0 l ∧ powA 0 l ≤ capF := by
  have := powA_bd l hd l.length (Nat.le_refl _)
  rwa [List.take_length] at this
theorem powV_bd {p : List UInt8} (hd : Digs (unS p)) : - capF ≤ powV p ∧ powV p ≤ capF := by
  have := powA_bd' _ hd
  unfold powV capF at *
  split <;> omega
/-- How the digits and the power end, when the noughts at the end have paid for a power below 0. -/
structure Fin (d : List UInt8) (n : Int) (dd : List UInt8) (P : Int) : Prop where
  no : P < 0 → n < - (zerosN d : Int)
  yes : ¬ P < 0 → ¬ n < - (zerosN d : Int) ∧ (dd.length : Int) + P = d.length + n
  ne : 0 < dd.length
  le : P ≤ capF ∧ dd.length ≤ d.length ∧ -(capF + 1000000) ≤ P
  txt : ¬ P < 0 → dd ++ List.replicate P.toNat 48 = if n < 0 then d.take ((d.length : Int) + n).toNat else d ++ List.replicate n.toNat 48
theorem Fin.stop {d : List UInt8} {n : Int} (hd : d ≠ []) (h0 : byteAt d 0 ≠ 48) (hn : n ≤ capF) (hl : -(capF + 1000000) ≤ n) {k : Nat} (hk : k ≤ zerosN d) (hkn : k = 0 ∨ n + k ≤ 0) (hs : ¬ n + k < 0 ∨ k = zerosN d) : Fin d n (d.take (d.length - k)) (n + k) := by
  have hz := zerosN_lt hd h0
  have hlen : (d.take (d.length - k)).length = d.length - k := by rw [List.length_take]; omega
  have hq : capF = 1099511627776 := rfl
  refine ⟨fun h => ?_, fun h => ⟨?_, ?_⟩, by rw [hlen]; omega, ⟨?_, by rw [hlen]; omega, by omega⟩, fun h => ?_⟩
  · rcases hs with hs | rfl
    · exact absurd h hs
    · omega
  · omega
  · rw [hlen]; omega
  · rcases hkn with rfl | h
    · simpa using hn
    · omega
  · by_cases hneg : n < 0
    · have e : n + k = 0 := by omega
      rw [if_pos hneg, e]
      have : ((d.length : Int) + n).toNat = d.length - k := by omega
      rw [this]
      simp
    · have : k = 0 := by omega
      subst this
      rw [if_neg hneg]
      simp
theorem rep_snoc (a : List UInt8) (j : Nat) : a ++ List.replicate j 48 ++ [48] = a ++ List.replicate (j + 1) 48 := by
  rw [List.replicate_succ', List.append_assoc]
/-- A text of more than nineteen digits that does not begin with a nought is too large. -/
theorem big_code {m : Bool} {t : List UInt8} (hd : Digs t) (h0 : byteAt t 0 ≠ 48) (hl : 20 ≤ t.length) : intCode ((if m = true then [45] else []) ++ t) = 4 ∧ intVal ((if m = true then [45] else []) ++ t) = 0 := by
  have hne : t ≠ [] := by intro e; rw [e] at hl; simp at hl
  have hok : decOk t = true := (decOk_iff t).2 ⟨hd, hne, fun e => absurd e h0⟩
  have hlo := decN_lo t hd hne h0
  have hp : (10 : Int) ^ 19 ≤ 10 ^ (t.length - 1) := pow10_le (by omega)
  have hv : (10 : Int) ^ 19 = 10000000000000000000 := by decide +kernel
  have hneg := negS_dec t hok
  have hc : intCode ((if m = true then [45] else []) ++ t) = 4 := by
    cases m with
    | true =>
      have h1 : negS (45 :: t) = true := by simp [negS, byteAt_zero']; decide
      show intCode (45 :: t) = 4
      unfold intCode
      rw [if_pos h1, List.tail_cons, if_neg (by intro e; rw [e] at hl; simp at hl)]
      unfold decCode
      rw [if_pos hok, if_neg (by omega)]
    | false =>
      show intCode t = 4
      unfold intCode
      rw [hneg, if_neg (by simp)]
      unfold decCode
      rw [if_pos hok, if_neg (by omega)]
  exact ⟨hc, by unfold intVal; rw [hc, if_neg (by decide)]⟩
end Go.Proofs.Ytgfdmdikiickpaa
