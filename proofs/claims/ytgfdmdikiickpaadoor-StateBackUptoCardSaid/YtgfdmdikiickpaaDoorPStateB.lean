/-
  Chapter 44 as plain functions: what the loops keep.
-/
import Derived.Test.YtgfdmdikiickpaaDoorPState
namespace Go.Proofs.YtgfdmdikiickpaaDoor

theorem cutB_find (c : UInt8) : ∀ l : List UInt8, cutB c l = if findN c l = l.length then [l] else l.take (findN c l) :: cutB c (l.drop (findN c l + 1))
  | [] => rfl
  | b :: l => by
    have ih := cutB_find c l
    by_cases h : b = c
    · subst h
      rw [cutB_eq, findN, if_pos rfl, if_neg (by simp)]
      simp
    · rw [cutB_cons h, findN, if_neg h, ih]
      by_cases e : findN c l = l.length
      · rw [if_pos e, if_pos (by simp [e])]
        rfl
      · rw [if_neg e, if_neg (by simp only [List.length_cons]; omega)]
        simp
theorem readP_at {ps : List (List UInt8)} {k : Nat} {p : List UInt8} (h : ps[k]? = some p) (acc : List Mb) : readP (ps.drop k) acc = if (stepS acc p).2 = 0 then readP (ps.drop (k + 1)) (stepS acc p).1 else stepS acc p := by
  have hlt : k < ps.length := by
    rcases Nat.lt_or_ge k ps.length with q | q
    · exact q
    · rw [List.getElem?_eq_none q] at h; cases h
  rw [List.getElem?_eq_getElem hlt] at h
  rw [List.drop_eq_getElem_cons hlt, Option.some.inj h, readP]
theorem readP_end {ps : List (List UInt8)} (acc : List Mb) : readP (ps.drop ps.length) acc = (acc, 0) := by rw [List.drop_length, readP]
theorem join_snoc (c : UInt8) : ∀ (xs : List (List UInt8)) (x : List UInt8), Lib.join (xs ++ [x]) [c] = if xs = [] then x else Lib.join xs [c] ++ c :: x
  | [], x => by simp [Lib.join, List.intercalate]
  | [y], x => by simp [Lib.join, List.intercalate, List.intersperse]
  | y :: z :: r, x => by
    have ih := join_snoc c (z :: r) x
    have e : ∀ t : List (List UInt8), Lib.join (y :: z :: t) [c] = y ++ c :: Lib.join (z :: t) [c] := fun t => by
      unfold Lib.join
      simp [List.intercalate, List.intersperse]
    rw [if_neg (by simp)] at ih ⊢
    show Lib.join (y :: z :: (r ++ [x])) [c] = _
    rw [e, e]
    rw [List.cons_append] at ih
    rw [ih]
    simp
theorem textS_snoc (L : List Mb) (m : Mb) : textS (L ++ [m]) = if L = [] then memT m else textS L ++ 44 :: memT m := by
  unfold textS
  rw [List.map_append, List.map_cons, List.map_nil, join_snoc]
  by_cases h : L = []
  · subst h; rfl
  · rw [if_neg h, if_neg (by simpa using h)]
theorem take_snoc_at {α : Type} {L : List α} {k : Nat} {m : α} (h : L[k]? = some m) : L.take (k + 1) = L.take k ++ [m] := by
  have hlt : k < L.length := by
    rcases Nat.lt_or_ge k L.length with q | q
    · exact q
    · rw [List.getElem?_eq_none q] at h; cases h
  rw [List.getElem?_eq_getElem hlt] at h
  rw [List.take_succ_eq_append_getElem hlt, Option.some.inj h]
theorem get_lt {α : Type} {L : List α} {k : Nat} (h : k < L.length) : ∃ m, L[k]? = some m := ⟨_, List.getElem?_eq_getElem h⟩
/-- The first place of a key. -/
def posM (L : List Mb) (key : List UInt8) : Option Nat := L.findIdx? fun m => m.1 == key
def idxM (L : List Mb) (key : List UInt8) : Int := match posM L key with | some k => (k : Int) | none => -1
theorem idxM_hit {L : List Mb} {key : List UInt8} {k : Nat} {m : Mb} (hk : L[k]? = some m) (hm : (m.1 == key) = true) (hno : hasM (L.take k) key = false) : idxM L key = k ∧ hasM L key = true ∧ getM L key = m.2 := by
  have hlt : k < L.length := by
    rcases Nat.lt_or_ge k L.length with q | q
    · exact q
    · rw [List.getElem?_eq_none q] at hk; cases hk
  have e : L = L.take k ++ m :: L.drop (k + 1) := by
    rw [List.getElem?_eq_getElem hlt] at hk
    obtain rfl := Option.some.inj hk
    rw [← List.drop_eq_getElem_cons hlt, List.take_append_drop]
  have hl : (L.take k).length = k := by simp; omega
  generalize L.take k = A at *
  generalize L.drop (k + 1) = B at *
  subst e
  subst hl
  unfold hasM at hno
  have hA : A.findIdx? (fun m => m.1 == key) = none := by
    rw [List.findIdx?_eq_none_iff]
    intro x hx
    have := List.any_eq_false.1 hno x hx
    simpa using this
  have hF : A.find? (fun m => m.1 == key) = none := by
    rw [List.find?_eq_none]
    intro x hx
    exact List.any_eq_false.1 hno x hx
  refine ⟨?_, ?_, ?_⟩
  · unfold idxM posM
    rw [List.findIdx?_append, hA]
    simp [List.findIdx?_cons, hm]
  · unfold hasM
    simp [hm]
  · unfold getM
    rw [List.find?_append, hF]
    simp [hm]
theorem idxM_miss {L : List Mb} {key : List UInt8} (h : hasM L key = false) : idxM L key = -1 ∧ getM L key = [] := by
  unfold hasM at h
  have hA : L.findIdx? (fun m => m.1 == key) = none := by
    rw [List.findIdx?_eq_none_iff]
    intro x hx
    have := List.any_eq_false.1 h x hx
    simpa using this
  have hF : L.find? (fun m => m.1 == key) = none := by
    rw [List.find?_eq_none]
    intro x hx
    exact List.any_eq_false.1 h x hx
  unfold idxM posM getM
  rw [hA, hF]
  exact ⟨rfl, rfl⟩
theorem hasM_snoc (L : List Mb) (m : Mb) (key : List UInt8) : hasM (L ++ [m]) key = (hasM L key || (m.1 == key)) := by simp [hasM]
theorem hasM_at : ∀ (L : List Mb) (key : List UInt8), hasM L key = true → ∃ (k : Nat) (m : Mb), L[k]? = some m ∧ idxM L key = k ∧ getM L key = m.2
  | [], key, h => by simp [hasM] at h
  | x :: L, key, h => by
    by_cases c : (x.1 == key) = true
    · exact ⟨0, x, rfl, by simp [idxM, posM, List.findIdx?_cons, c], by simp [getM, c]⟩
    · have h' : hasM L key = true := by simpa [hasM, c] using h
      obtain ⟨k, m, h1, h2, h3⟩ := hasM_at L key h'
      have c' : (x.1 == key) = false := by simpa using c
      refine ⟨k + 1, m, by simpa using h1, ?_, ?_⟩
      · unfold idxM posM at h2 ⊢
        rw [List.findIdx?_cons, c']
        cases hq : L.findIdx? (fun m => m.1 == key) with
        | none => rw [hq] at h2; simp at h2; try omega
        | some i => rw [hq] at h2; simp at h2 ⊢; try omega
      · unfold getM at h3 ⊢
        rw [List.find?_cons, c']
        exact h3
/-- What Put lays: the members, one ahead, some of them behind. -/
def putR (L : List Mb) (key value : List UInt8) : List Mb := (key, value) :: (L.filter fun m => !(m.1 == key)).take 31
theorem putR_len (L : List Mb) (key value : List UInt8) : 1 ≤ (putR L key value).length ∧ (putR L key value).length ≤ 32 := by
  unfold putR
  simp only [List.length_cons, List.length_take]
  omega
theorem filt_snoc (L : List Mb) (m : Mb) (key : List UInt8) : (L ++ [m]).filter (fun m => !(m.1 == key)) = L.filter (fun m => !(m.1 == key)) ++ (if (m.1 == key) = true then [] else [m]) := by
  rw [List.filter_append]
  by_cases h : (m.1 == key) = true
  · simp [h]
  · simp [h]
theorem putR_skip {L : List Mb} {m : Mb} {key value : List UInt8} (h : (m.1 == key) = true) : putR (L ++ [m]) key value = putR L key value := by
  unfold putR
  rw [filt_snoc, if_pos h, List.append_nil]
theorem putR_full {L : List Mb} {key value : List UInt8} (h : 32 ≤ (putR L key value).length) (X : List Mb) : putR (L ++ X) key value = putR L key value := by
  unfold putR at *
  simp only [List.length_cons, List.length_take] at h
  rw [List.filter_append, List.take_append_of_le_length (by omega)]
theorem putR_snoc {L : List Mb} {m : Mb} {key value : List UInt8} (h : (m.1 == key) = false) (hl : (putR L key value).length < 32) : putR (L ++ [m]) key value = putR L key value ++ [m] := by
  unfold putR at *
  simp only [List.length_cons, List.length_take] at hl
  rw [filt_snoc, if_neg (by rw [h]; simp)]
  rw [List.take_of_length_le (l := L.filter _) (by omega), List.take_of_length_le (by simp; omega)]
  simp
theorem putS_yes {L : List Mb} {key value : List UInt8} (h1 : keyB key = true) (h2 : valB value = true) : putS L key value = (putR L key value, 0) := by
  unfold putS
  rw [if_pos ⟨h1, h2⟩]
  rfl
theorem putS_no {L : List Mb} {key value : List UInt8} (h : ¬ (keyB key = true ∧ valB value = true)) : putS L key value = ([], 3) := by
  unfold putS
  rw [if_neg h]
theorem step_skip {acc : List Mb} {p : List UInt8} (h : trimB p = []) : stepS acc p = (acc, 0) := by
  unfold stepS
  rw [if_pos h]
theorem step_form {acc : List Mb} {p : List UInt8} (h : trimB p ≠ []) (hb : ¬ (findN 61 (trimB p) < (trimB p).length ∧ keyB ((trimB p).take (findN 61 (trimB p))) = true ∧ valB ((trimB p).drop (findN 61 (trimB p) + 1)) = true)) : stepS acc p = ([], 3) := by
  have hle := findN_le 61 (trimB p)
  unfold stepS
  rw [if_neg h, if_pos ?_]
  by_cases c1 : findN 61 (trimB p) = (trimB p).length
  · exact .inl c1
  · by_cases c2 : keyB ((trimB p).take (findN 61 (trimB p))) = true
    · refine .inr (.inr ?_)
      by_cases c3 : valB ((trimB p).drop (findN 61 (trimB p) + 1)) = true
      · exact absurd ⟨by omega, c2, c3⟩ hb
      · simpa using c3
    · exact .inr (.inl (by simpa using c2))
theorem step_rest {acc : List Mb} {p : List UInt8} (h : trimB p ≠ []) (h1 : findN 61 (trimB p) < (trimB p).length) (h2 : keyB ((trimB p).take (findN 61 (trimB p))) = true) (h3 : valB ((trimB p).drop (findN 61 (trimB p) + 1)) = true) :
    stepS acc p = if hasM acc ((trimB p).take (findN 61 (trimB p))) = true then ([], 8) else if acc.length = 32 then ([], 34) else (acc ++ [((trimB p).take (findN 61 (trimB p)), (trimB p).drop (findN 61 (trimB p) + 1))], 0) := by
  unfold stepS
  rw [if_neg h, if_neg (by rw [h2, h3]; simp; omega)]
theorem idx_neg {L : List Mb} {key : List UInt8} : (hasM L key = true ∧ 0 ≤ idxM L key) ∨ (hasM L key = false ∧ idxM L key = -1) := by
  by_cases h : hasM L key = true
  · obtain ⟨k, m, _, h2, _⟩ := hasM_at L key h
    exact .inl ⟨h, by omega⟩
  · have h' : hasM L key = false := by simpa using h
    exact .inr ⟨h', (idxM_miss h').1⟩
/-- What is left to be read from a place on. -/
def contR (s : List UInt8) (n : Nat) (acc : List Mb) : List Mb × Int := if s.length < n then (acc, 0) else readP (cutB 44 (s.drop n)) acc
theorem contR_start (s : List UInt8) : readS s = contR s 0 [] := by
  unfold contR
  rw [if_neg (by omega), List.drop_zero]
  rfl
theorem contR_end {s : List UInt8} {n : Nat} (h : s.length < n) (acc : List Mb) : contR s n acc = (acc, 0) := by
  unfold contR
  rw [if_pos h]
theorem contR_step {s : List UInt8} {n : Nat} (h : n ≤ s.length) (acc : List Mb) :
    contR s n acc = if (stepS acc ((s.drop n).take (findN 44 (s.drop n)))).2 = 0 then contR s (n + findN 44 (s.drop n) + 1) (stepS acc ((s.drop n).take (findN 44 (s.drop n)))).1 else stepS acc ((s.drop n).take (findN 44 (s.drop n))) := by
  have hle := findN_le 44 (s.drop n)
  have hdl : (s.drop n).length = s.length - n := by rw [List.length_drop]
  conv => lhs; unfold contR
  rw [if_neg (by omega), cutB_find]
  by_cases e : findN 44 (s.drop n) = (s.drop n).length
  · rw [if_pos e, readP, readP, e, List.take_length, contR_end (by omega)]
  · rw [if_neg e, readP]
    unfold contR
    rw [if_neg (c := s.length < n + findN 44 (s.drop n) + 1) (by omega), List.drop_drop]
    rw [show n + (findN 44 (s.drop n) + 1) = n + findN 44 (s.drop n) + 1 by omega]
theorem key_len {s : List UInt8} (h : keyB s = true) : s.length ≤ 256 := by
  have hle := findN_le 64 s
  unfold keyB at h
  split at h
  · rw [Bool.and_eq_true] at h
    have := (allB_of h.1).2.2
    omega
  · rename_i c
    simp only [Bool.and_eq_true] at h
    have h1 := (allB_of h.1.1).2.2
    have h2 := (allB_of h.2.1).2.2
    rw [List.length_take] at h1
    rw [List.length_drop] at h2
    omega
theorem val_len {s : List UInt8} (h : valB s = true) : s.length ≤ 256 := by
  unfold valB at h
  rw [Bool.and_eq_true] at h
  have := (allB_of h.1).2.2
  omega
theorem good_len {m : Mb} (h1 : keyB m.1 = true) (h2 : valB m.2 = true) : m.1.length ≤ 300 ∧ m.2.length ≤ 300 := by
  have := key_len h1
  have := val_len h2
  omega
end Go.Proofs.YtgfdmdikiickpaaDoor
