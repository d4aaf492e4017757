/-
  Texts for the laws of this seat, merged: PCarryB.
-/
import Derived.Test.YtgfdmdikiickpaaGreatDoorME
import Derived.Test.YtgfdmdikiickpaaGreatDoorML
/-! PCarryB -/
namespace Go.Proofs.YtgfdmdikiickpaaGreatDoor

def six (b : UInt8) : Bool := b == 116 || (b == 84 || (b == 120 || (b == 88 || (b == 98 || b == 66))))
def noHead : List UInt8 → Bool
  | [] => true
  | b :: _ => !(six b)
theorem lw_six (b : UInt8) (h : six b = false) : lwB b ≠ 116 ∧ lwB b ≠ 120 ∧ lwB b ≠ 98 := by
  have key : ∀ b : UInt8, six b = true ∨ (lwB b ≠ 116 ∧ lwB b ≠ 120 ∧ lwB b ≠ 98) :=
    u8_all (p := fun b => six b = true ∨ (lwB b ≠ 116 ∧ lwB b ≠ 120 ∧ lwB b ≠ 98)) (by decide +kernel)
  rcases key b with q | q
  · rw [h] at q; cases q
  · exact q
theorem nms_first : ∀ n ∈ nms, ∃ b r, lwS n = b :: r ∧ (b = 116 ∨ b = 120 ∨ b = 98) := by
  intro n hn
  simp only [nms, List.mem_cons, List.not_mem_nil, or_false] at hn
  rcases hn with rfl | rfl | rfl | rfl | rfl | rfl | rfl | rfl
  · exact ⟨116, _, rfl, .inl rfl⟩
  · exact ⟨116, _, rfl, .inl rfl⟩
  · exact ⟨98, _, rfl, .inr (.inr rfl)⟩
  · exact ⟨120, _, rfl, .inr (.inl rfl)⟩
  · exact ⟨120, _, rfl, .inr (.inl rfl)⟩
  · exact ⟨120, _, rfl, .inr (.inl rfl)⟩
  · exact ⟨120, _, rfl, .inr (.inl rfl)⟩
  · exact ⟨120, _, rfl, .inr (.inl rfl)⟩
theorem noHead_ne {nm : List UInt8} (h : noHead nm = true) : ∀ n ∈ nms, (lwS nm == lwS n) = false := by
  intro n hn
  obtain ⟨b, r, e, hb⟩ := nms_first n hn
  rw [e, beq_eq_false_iff_ne]
  cases nm with
  | nil => simp [lwS]
  | cons c s =>
    have hc : six c = false := by simpa [noHead] using h
    obtain ⟨q1, q2, q3⟩ := lw_six c hc
    intro e2
    have : lwB c = b := (List.cons.inj e2).1
    rcases hb with rfl | rfl | rfl
    · exact q1 this
    · exact q2 this
    · exact q3 this
theorem vals_cons {m : Mb} {H : List Mb} {n : List UInt8} (h : (lwS m.1 == lwS n) = false) : valsR (m :: H) n = valsR H n := by
  unfold valsR
  rw [List.filter_cons, if_neg (by rw [h]; simp)]
theorem exR_congr {L L' : List Mb} (h : ∀ n ∈ nms, valsR L n = valsR L' n) : exR L = exR L' := by
  have e1 := h n1 (by simp [nms])
  have e2 := h n2 (by simp [nms])
  have e3 := h n3 (by simp [nms])
  have e4 := h nT (by simp [nms])
  have e5 := h nX (by simp [nms])
  have e6 := h nP (by simp [nms])
  have e7 := h nS (by simp [nms])
  have e8 := h nF (by simp [nms])
  unfold exR exW exS exM dbl5 mu5 dbl valV
  rw [e1, e2, e3, e4, e5, e6, e7, e8]
theorem exR_more {m : Mb} {H : List Mb} (h : noHead m.1 = true) : exR (m :: H) = exR H := exR_congr (fun n hn => vals_cons (noHead_ne h n hn))
theorem short_more {m : Mb} {H : List Mb} (h : noHead m.1 = true) (hS : ShortV H) (hl : H.length ≤ 900) : ShortV (m :: H) :=
  ⟨by simp only [List.length_cons]; omega, fun n hn s hs => hS.2 n hn s (by rw [vals_cons (noHead_ne h n hn)] at hs; exact hs)⟩
theorem vals_some (L : List Mb) (n : List UInt8) (v : List UInt8) (nm : List UInt8) : valsR (someR ((nm, v) :: L)) n = (if v = [] then [] else if (lwS nm == lwS n) = true then [v] else []) ++ valsR (someR L) n := by
  unfold valsR someR
  by_cases hv : v = []
  · subst hv
    rw [if_pos rfl, List.filter_cons, if_neg (by simp)]
    rfl
  · rw [if_neg hv, List.filter_cons, if_pos (by simpa using hv), List.filter_cons]
    by_cases h : (lwS nm == lwS n) = true
    · rw [if_pos h, if_pos h]; rfl
    · rw [if_neg h, if_neg h]; rfl
theorem vals_none (n : List UInt8) : valsR (someR []) n = [] := rfl
theorem text_nil {M : List Mb} (h : GoodM M) (h0 : textS M = []) : M = [] := by
  have e := text_back h
  rw [h0] at e
  have : readS [] = ([], 0) := rfl
  rw [this] at e
  exact (congrArg Prod.fst e).symm
theorem mayB_text {t x : List UInt8} {f : Int} (h : mayB t x = true) : textH t x f ≠ [] := by
  unfold textH
  rw [if_pos h]
  simp
theorem back_w3c {t x p : List UInt8} {k : Int} {M : List Mb} (ht : t.length = 16) (hx : x.length = 8) (hm : mayB t x = true) (hk : k = 1 ∨ k = 2) (hM : GoodM M) : exR (injR t x p k M 1) = ((t, x, zb 8, k, 0), M) := by
  have hf : 0 ≤ keepF k ∧ keepF k ≤ 255 := by unfold keepF; split <;> decide
  have hT := mayB_text (f := keepF k) hm
  have hR := readH_text t x (keepF k) ht hx hf.1 hf.2 hm
  have hinj : injR t x p k M 1 = someR [(n1, textH t x (keepF k)), (n2, textS M)] := by
    unfold injR
    rw [if_pos rfl, if_neg hT]
  rw [hinj]
  have v1 : valsR (someR [(n1, textH t x (keepF k)), (n2, textS M)]) n1 = [textH t x (keepF k)] := by
    rw [vals_some, vals_some, vals_none, if_neg hT, if_pos (by decide), show (lwS n2 == lwS n1) = false by decide]
    split <;> rfl
  have v2 : valsR (someR [(n1, textH t x (keepF k)), (n2, textS M)]) n2 = if textS M = [] then [] else [textS M] := by
    rw [vals_some, vals_some, vals_none, if_neg hT, show (lwS n1 == lwS n2) = false by decide, show (lwS n2 == lwS n2) = true by decide]
    simp
  have hj : (readS (Lib.join (if textS M = [] then [] else [textS M]) [44])).1 = M := by
    by_cases h0 : textS M = []
    · rw [if_pos h0, text_nil hM h0]
      rfl
    · rw [if_neg h0, show Lib.join [textS M] [44] = textS M by simp [Lib.join, List.intercalate], text_back hM]
  unfold exR
  rw [if_pos (by rw [v1]; simp)]
  unfold exW dbl valV
  rw [v1, v2, if_neg (by simp), show ([textH t x (keepF k)].headD []) = textH t x (keepF k) from rfl, hR, hj]
  simp only [if_true]
  rcases hk with rfl | rfl <;> rfl
theorem one_ne {t x p : List UInt8} {k : Int} (h : mayC t x p k = true) (hm : mayB t x = true) : oneT t x p k ≠ [] := by
  unfold oneT
  rw [if_pos h]
  unfold mayB at hm
  rw [if_neg (by intro e; rw [e] at hm; simp at hm)]
  simp
theorem back_single {t x p : List UInt8} {k : Int} {M : List Mb} (ht : t.length = 16) (hx : x.length = 8) (hp : p.length = 8) (hc : mayC t x p k = true) (hm : mayB t x = true) (hk : k = 1 ∨ k = 2) : exR (injR t x p k M 2) = ((t, x, p, k, 0), []) := by
  have hT := one_ne hc hm
  have hinj : injR t x p k M 2 = someR [(n3, oneT t x p k)] := by
    unfold injR
    rw [if_neg (by decide), if_pos rfl]
  rw [hinj]
  have v1 : valsR (someR [(n3, oneT t x p k)]) n1 = [] := by
    rw [vals_some, vals_none, show (lwS n3 == lwS n1) = false by decide]
    split <;> rfl
  have v3 : valsR (someR [(n3, oneT t x p k)]) n3 = [oneT t x p k] := by
    rw [vals_some, vals_none, if_neg hT, if_pos (by decide)]
    rfl
  unfold exR
  rw [if_neg (by rw [v1]; simp), if_pos (by rw [v3]; simp)]
  unfold exS dbl valV
  rw [v3, if_neg (by simp), show ([oneT t x p k].headD []) = oneT t x p k from rfl, one_back ht hx hp hc hT, if_neg (by rcases hk with rfl | rfl <;> decide)]
theorem vals_five (m : Mu) : valsR (someR (five m)) n1 = [] ∧ valsR (someR (five m)) n3 = [] ∧ valsR (someR (five m)) nT = (if m.1 = [] then [] else [m.1]) ∧ valsR (someR (five m)) nX = (if m.2.1 = [] then [] else [m.2.1]) ∧
    valsR (someR (five m)) nP = (if m.2.2.1 = [] then [] else [m.2.2.1]) ∧ valsR (someR (five m)) nS = (if m.2.2.2.1 = [] then [] else [m.2.2.2.1]) ∧ valsR (someR (five m)) nF = (if m.2.2.2.2 = [] then [] else [m.2.2.2.2]) := by
  unfold five
  refine ⟨?_, ?_, ?_, ?_, ?_, ?_, ?_⟩
  · rw [vals_some, vals_some, vals_some, vals_some, vals_some, vals_none, show (lwS nT == lwS n1) = false by decide, show (lwS nX == lwS n1) = false by decide, show (lwS nP == lwS n1) = false by decide, show (lwS nS == lwS n1) = false by decide, show (lwS nF == lwS n1) = false by decide]
    simp
  · rw [vals_some, vals_some, vals_some, vals_some, vals_some, vals_none, show (lwS nT == lwS n3) = false by decide, show (lwS nX == lwS n3) = false by decide, show (lwS nP == lwS n3) = false by decide, show (lwS nS == lwS n3) = false by decide, show (lwS nF == lwS n3) = false by decide]
    simp
  · rw [vals_some, vals_some, vals_some, vals_some, vals_some, vals_none, show (lwS nT == lwS nT) = true by decide, show (lwS nX == lwS nT) = false by decide, show (lwS nP == lwS nT) = false by decide, show (lwS nS == lwS nT) = false by decide, show (lwS nF == lwS nT) = false by decide]
    simp
  · rw [vals_some, vals_some, vals_some, vals_some, vals_some, vals_none, show (lwS nT == lwS nX) = false by decide, show (lwS nX == lwS nX) = true by decide, show (lwS nP == lwS nX) = false by decide, show (lwS nS == lwS nX) = false by decide, show (lwS nF == lwS nX) = false by decide]
    simp
  · rw [vals_some, vals_some, vals_some, vals_some, vals_some, vals_none, show (lwS nT == lwS nP) = false by decide, show (lwS nX == lwS nP) = false by decide, show (lwS nP == lwS nP) = true by decide, show (lwS nS == lwS nP) = false by decide, show (lwS nF == lwS nP) = false by decide]
    simp
  · rw [vals_some, vals_some, vals_some, vals_some, vals_some, vals_none, show (lwS nT == lwS nS) = false by decide, show (lwS nX == lwS nS) = false by decide, show (lwS nP == lwS nS) = false by decide, show (lwS nS == lwS nS) = true by decide, show (lwS nF == lwS nS) = false by decide]
    simp
  · rw [vals_some, vals_some, vals_some, vals_some, vals_some, vals_none, show (lwS nT == lwS nF) = false by decide, show (lwS nX == lwS nF) = false by decide, show (lwS nP == lwS nF) = false by decide, show (lwS nS == lwS nF) = false by decide, show (lwS nF == lwS nF) = true by decide]
    simp
theorem one_or (s : List UInt8) : (if s = [] then ([] : List (List UInt8)) else [s]).headD [] = s ∧ decide (1 < (if s = [] then ([] : List (List UInt8)) else [s]).length) = false := by
  by_cases h : s = []
  · rw [if_pos h, h]; exact ⟨rfl, rfl⟩
  · rw [if_neg h]; exact ⟨rfl, rfl⟩
theorem back_multi {t x p : List UInt8} {k : Int} {M : List Mb} (ht : t.length = 16) (hx : x.length = 8) (hp : p.length = 8) (hc : mayC t x p k = true) : exR (injR t x p k M 3) = ((t, x, p, k, 0), []) := by
  have hinj : injR t x p k M 3 = someR (five (multiT t x p k)) := by
    unfold injR
    rw [if_neg (by decide), if_neg (by decide), if_pos rfl]
  rw [hinj]
  obtain ⟨v1, v3, v4, v5, v6, v7, v8⟩ := vals_five (multiT t x p k)
  have hb := multi_back ht hx hp hc
  generalize multiT t x p k = m at *
  unfold exR
  rw [if_neg (by rw [v1]; simp), if_neg (by rw [v3]; simp)]
  unfold exM dbl5 mu5 dbl valV
  rw [v4, v5, v6, v7, v8, (one_or m.1).1, (one_or m.2.1).1, (one_or m.2.2.1).1, (one_or m.2.2.2.1).1, (one_or m.2.2.2.2).1, (one_or m.1).2, (one_or m.2.1).2, (one_or m.2.2.1).2, (one_or m.2.2.2.1).2, (one_or m.2.2.2.2).2]
  rw [if_neg (by simp)]
  rw [show ((m.1, m.2.1, m.2.2.1, m.2.2.2.1, m.2.2.2.2) : Mu) = m from rfl, hb]
theorem mem_some {L : List Mb} {m : Mb} (h : m ∈ someR L) : m ∈ L := (List.mem_filter.1 h).1
theorem within_46 (p : List UInt8) (h : p.length = 8) : (within p).length ≤ 16 := by
  unfold within
  split
  · simp
  · rw [hexEnc_length, h]; decide
theorem letter_46 (k : Int) : (letterS k).length ≤ 1 := by
  unfold letterS
  repeat' split
  all_goals decide
theorem one_46 {t x p : List UInt8} {k : Int} (h1 : t.length = 16) (h2 : x.length = 8) (h3 : p.length = 8) : (oneT t x p k).length ≤ 100 := by
  have := letter_46 k
  unfold oneT
  split
  · split
    · omega
    · have h1' : (if k = 0 then ([] : List UInt8) else [45] ++ letterS k ++ (if p = zb 8 then [] else [45] ++ hexEnc p)).length ≤ 19 := by
        split
        · simp
        · have : (if p = zb 8 then ([] : List UInt8) else [45] ++ hexEnc p).length ≤ 17 := by
            split
            · simp
            · rw [List.length_append, hexEnc_length, h3]; decide
          simp only [List.length_append, List.length_singleton] at *
          omega
      rw [List.length_append, List.length_append, List.length_append, hexEnc_length, hexEnc_length, h1, h2]
      simp only [List.length_singleton]
      omega
  · simp
theorem text_46 {t x : List UInt8} {f : Int} (h1 : t.length = 16) (h2 : x.length = 8) : (textH t x f).length ≤ 100 := by
  unfold textH
  split
  · simp only [List.length_append, hexEnc_length, h1, h2, List.length_cons, List.length_nil]
    omega
  · simp
theorem multi_46 {t x p : List UInt8} {k : Int} (h1 : t.length = 16) (h2 : x.length = 8) (h3 : p.length = 8) : (multiT t x p k).1.length ≤ 32 ∧ (multiT t x p k).2.1.length ≤ 32 ∧ (multiT t x p k).2.2.1.length ≤ 32 ∧ (multiT t x p k).2.2.2.1.length ≤ 32 ∧ (multiT t x p k).2.2.2.2.length ≤ 32 := by
  have hw := within_46 p h3
  have hl := letter_46 k
  unfold multiT
  split
  · refine ⟨?_, ?_, by simp only; omega, ?_, ?_⟩
    · simp only; split; simp; rw [hexEnc_length, h1]; decide
    · simp only; split; simp; rw [hexEnc_length, h2]; decide
    · simp only; split; simp; omega
    · simp only; split <;> simp
  · exact ⟨by decide, by decide, by decide, by decide, by decide⟩
theorem short_of {L : List Mb} (hl : L.length ≤ 1000) (h : ∀ m ∈ L, m.2.length ≤ 1048576) : ShortV L := by
  refine ⟨hl, fun n _ s hs => ?_⟩
  unfold valsR at hs
  obtain ⟨m, hm, rfl⟩ := List.mem_map.1 hs
  exact h m (List.mem_filter.1 hm).1
theorem inj_vals {t x p : List UInt8} {k : Int} {M : List Mb} {style : Int} (h1 : t.length = 16) (h2 : x.length = 8) (h3 : p.length = 8) (hM : (textS M).length ≤ 1000000) : ∀ m ∈ injR t x p k M style, m.1.length ≤ 100 ∧ m.2.length ≤ 1048576 := by
  intro m hm
  unfold injR at hm
  split at hm
  · split at hm
    · cases hm
    · have := mem_some hm
      simp only [List.mem_cons, List.not_mem_nil, or_false] at this
      rcases this with rfl | rfl
      · exact ⟨show n1.length ≤ 100 by decide, by have := text_46 (f := keepF k) h1 h2; simp only; omega⟩
      · exact ⟨show n2.length ≤ 100 by decide, by simp only; omega⟩
  · split at hm
    · have := mem_some hm
      simp only [List.mem_cons, List.not_mem_nil, or_false] at this
      rcases this with rfl
      exact ⟨show n3.length ≤ 100 by decide, by have := one_46 (k := k) h1 h2 h3; simp only; omega⟩
    · split at hm
      · have := mem_some hm
        obtain ⟨q1, q2, q3, q4, q5⟩ := multi_46 (k := k) h1 h2 h3
        unfold five at this
        simp only [List.mem_cons, List.not_mem_nil, or_false] at this
        rcases this with rfl | rfl | rfl | rfl | rfl
        · exact ⟨show nT.length ≤ 100 by decide, by simp only; omega⟩
        · exact ⟨show nX.length ≤ 100 by decide, by simp only; omega⟩
        · exact ⟨show nP.length ≤ 100 by decide, by simp only; omega⟩
        · exact ⟨show nS.length ≤ 100 by decide, by simp only; omega⟩
        · exact ⟨show nF.length ≤ 100 by decide, by simp only; omega⟩
      · cases hm
theorem inj_ne {t x p : List UInt8} {k : Int} {M : List Mb} {style : Int} (h1 : t.length = 16) (hc : mayC t x p k = true) (hm : mayB t x = true) (hs : style = 1 ∨ style = 2 ∨ style = 3) : injR t x p k M style ≠ [] := by
  rcases hs with rfl | rfl | rfl
  · have hT := mayB_text (f := keepF k) hm
    unfold injR
    rw [if_pos rfl, if_neg hT]
    unfold someR
    rw [List.filter_cons, if_pos (by simpa using hT)]
    simp
  · have hT := one_ne hc hm
    unfold injR
    rw [if_neg (by decide), if_pos rfl]
    unfold someR
    rw [List.filter_cons, if_pos (by simpa using hT)]
    simp
  · have hT : (multiT t x p k).1 ≠ [] := by
      unfold multiT
      rw [if_pos hc]
      unfold mayB at hm
      simp only
      rw [if_neg (by intro e; rw [e] at hm; simp at hm)]
      intro e
      have := congrArg List.length e
      rw [hexEnc_length, h1] at this
      simp at this
    unfold injR
    rw [if_neg (by decide), if_neg (by decide), if_pos rfl]
    unfold someR five
    rw [List.filter_cons, if_pos (by simpa using hT)]
    simp
end Go.Proofs.YtgfdmdikiickpaaGreatDoor
