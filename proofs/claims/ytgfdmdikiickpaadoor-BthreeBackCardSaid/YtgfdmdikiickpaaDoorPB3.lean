/-
  Chapter 45 as plain functions: the single header, the several ones.
-/
import Derived.Test.YtgfdmdikiickpaaDoorPSplit
import Derived.Test.YtgfdmdikiickpaaDoorIdentRef
namespace Go.Proofs.YtgfdmdikiickpaaDoor

def keepS (s : List UInt8) : Int := if s = [48] then 1 else if s = [49] then 2 else if s = [100] then 3 else 0
def letterS (k : Int) : List UInt8 := if k = 1 then [48] else if k = 2 then [49] else if k = 3 then [100] else []
theorem keepS_bd (s : List UInt8) : 0 ≤ keepS s ∧ keepS s ≤ 3 := by unfold keepS; (repeat' split) <;> omega
theorem letterS_len (k : Int) : (letterS k).length ≤ 1 := by unfold letterS; (repeat' split) <;> simp
theorem keepS_letter {k : Int} (h : k = 1 ∨ k = 2 ∨ k = 3) : keepS (letterS k) = k := by rcases h with rfl | rfl | rfl <;> rfl
theorem letterS_zero {k : Int} (h : ¬ (k = 1 ∨ k = 2 ∨ k = 3)) : letterS k = [] := by
  unfold letterS
  rw [if_neg (by omega), if_neg (by omega), if_neg (by omega)]
/-- A context and what is wrong. -/
abbrev Cx := List UInt8 × List UInt8 × List UInt8 × Int × Int
def cxBad (c : Int) : Cx := (zb 16, zb 8, zb 8, 0, c)
def idsR (a b : List UInt8) : Cx := if traceC a = 0 then (if spanC b = 0 then (traceT a, spanT b, zb 8, 0, 0) else cxBad (spanC b)) else cxBad (traceC a)
def keepR (r : Cx) (s : List UInt8) : Cx := if r.2.2.2.2 = 0 then (if keepS s = 0 then cxBad 3 else (r.1, r.2.1, r.2.2.1, keepS s, 0)) else r
def parR (r : Cx) (s : List UInt8) : Cx := if r.2.2.2.2 = 0 then (if spanC s = 0 then (r.1, r.2.1, spanT s, r.2.2.2.1, 0) else cxBad (spanC s)) else r
/-- The parts of a single header. -/
def oneL : List (List UInt8) → Cx
  | [a] => if keepS a = 0 then cxBad 3 else (zb 16, zb 8, zb 8, keepS a, 0)
  | [a, b] => idsR a b
  | [a, b, c] => keepR (idsR a b) c
  | [a, b, c, d] => parR (keepR (idsR a b) c) d
  | _ => cxBad 3
def oneR (s : List UInt8) : Cx := oneL (cutB 45 s)
theorem oneL_many {l : List (List UInt8)} (h : 4 < l.length) : oneL l = cxBad 3 := by
  match l, h with
  | _ :: _ :: _ :: _ :: _ :: _, _ => rfl
def lenOk (r : Cx) : Prop := r.1.length = 16 ∧ r.2.1.length = 8 ∧ r.2.2.1.length = 8
theorem lenOk_bad (c : Int) : lenOk (cxBad c) := ⟨by simp [cxBad], by simp [cxBad], by simp [cxBad]⟩
theorem lenOk_ids (a b : List UInt8) : lenOk (idsR a b) := by
  unfold idsR
  split
  · split
    · exact ⟨traceT_length a, spanT_length b, zb_length 8⟩
    · exact lenOk_bad _
  · exact lenOk_bad _
theorem lenOk_keep {r : Cx} (h : lenOk r) (s : List UInt8) : lenOk (keepR r s) := by
  unfold keepR
  split
  · split
    · exact lenOk_bad _
    · exact ⟨h.1, h.2.1, h.2.2⟩
  · exact h
theorem lenOk_par {r : Cx} (h : lenOk r) (s : List UInt8) : lenOk (parR r s) := by
  unfold parR
  split
  · split
    · exact ⟨h.1, h.2.1, spanT_length s⟩
    · exact lenOk_bad _
  · exact h
theorem lenOk_one (l : List (List UInt8)) : lenOk (oneL l) := by
  unfold oneL
  split
  · split
    · exact lenOk_bad _
    · exact ⟨zb_length 16, zb_length 8, zb_length 8⟩
  · exact lenOk_ids _ _
  · exact lenOk_keep (lenOk_ids _ _) _
  · exact lenOk_par (lenOk_keep (lenOk_ids _ _) _) _
  · exact lenOk_bad _
/-- May a context be written? -/
def mayC (t x p : List UInt8) (k : Int) : Bool := decide (0 ≤ k) && decide (k ≤ 3) && ((t == zb 16) == (x == zb 8)) && (!(t == zb 16) || (p == zb 8))
def named (t : List UInt8) : Bool := !(t == zb 16)
def within (p : List UInt8) : List UInt8 := if p = zb 8 then [] else hexEnc p
def oneT (t x p : List UInt8) (k : Int) : List UInt8 :=
  if mayC t x p k = true then
    if t = zb 16 then letterS k
    else hexEnc t ++ [45] ++ hexEnc x ++ (if k = 0 then [] else [45] ++ letterS k ++ (if p = zb 8 then [] else [45] ++ hexEnc p))
  else []
/-- The several headers. -/
abbrev Mu := List UInt8 × List UInt8 × List UInt8 × List UInt8 × List UInt8
def muNone : Mu := ([], [], [], [], [])
def multiT (t x p : List UInt8) (k : Int) : Mu :=
  if mayC t x p k = true then
    (if t = zb 16 then [] else hexEnc t, if t = zb 16 then [] else hexEnc x, within p, if k = 3 then [] else letterS k, if k = 3 then [49] else [])
  else muNone
def sfalse : List UInt8 := [102, 97, 108, 115, 101]
def strue : List UInt8 := [116, 114, 117, 101]
/-- What is said on keeping: a number, or none. -/
def sampR (sa fl : List UInt8) : Int × Int :=
  if sa = [] ∨ sa = [48] ∨ sa = sfalse ∨ sa = [49] ∨ sa = strue then
    (if fl = [49] then (3, 0) else if fl = [] ∨ fl = [48] then ((if sa = [] then 0 else if sa = [48] ∨ sa = sfalse then 1 else 2), 0) else (0, 3))
  else (0, 3)
def pairR (a b : List UInt8) : Cx := if a = [] then cxBad 0 else idsR a b
def withinR (r : Cx) (s : List UInt8) : Cx := if s = [] then r else parR r s
def sampledR (r : Cx) (q : Int × Int) : Cx := if r.2.2.2.2 = 0 then (if q.2 = 0 then (r.1, r.2.1, r.2.2.1, q.1, 0) else cxBad 3) else r
def halfM (m : Mu) : Prop := (m.1 = [] ∨ m.2.1 = []) ∧ ¬ (m.1 = [] ∧ m.2.1 = [] ∧ m.2.2.1 = [])
instance (m : Mu) : Decidable (halfM m) := by unfold halfM; infer_instance
def multiR (m : Mu) : Cx := if halfM m then cxBad 9 else sampledR (withinR (pairR m.1 m.2.1) m.2.2.1) (sampR m.2.2.2.1 m.2.2.2.2)
theorem lenOk_pair (a b : List UInt8) : lenOk (pairR a b) := by unfold pairR; split; exact lenOk_bad _; exact lenOk_ids _ _
theorem lenOk_within {r : Cx} (h : lenOk r) (s : List UInt8) : lenOk (withinR r s) := by unfold withinR; split; exact h; exact lenOk_par h _
theorem lenOk_samp {r : Cx} (h : lenOk r) (q : Int × Int) : lenOk (sampledR r q) := by
  unfold sampledR
  split
  · split
    · exact ⟨h.1, h.2.1, h.2.2⟩
    · exact lenOk_bad _
  · exact h
theorem lenOk_multi (m : Mu) : lenOk (multiR m) := by
  unfold multiR
  split
  · exact lenOk_bad _
  · exact lenOk_samp (lenOk_within (lenOk_pair _ _) _) _
/-! What is written comes back. -/
theorem hexEnc_nodash : ∀ l : List UInt8, (45 : UInt8) ∉ hexEnc l
  | [] => by simp [hexEnc]
  | b :: l => by
    have ih := hexEnc_nodash l
    have hb : ∀ b : UInt8, (45 : UInt8) ∉ hexEnc [b] := u8_all (by decide +kernel)
    have e : hexEnc (b :: l) = hexEnc [b] ++ hexEnc l := by rw [← hexEnc_append]; rfl
    rw [e, List.mem_append]
    exact fun h => h.elim (hb b) ih
theorem letterS_nodash (k : Int) : (45 : UInt8) ∉ letterS k := by unfold letterS; (repeat' split) <;> decide
theorem traceC_enc {t : List UInt8} (ht : t.length = 16) : traceC (hexEnc t) = if t = zb 16 then 10 else 0 := by
  unfold traceC
  rw [hexDec_enc]
  simp only
  rw [if_pos (.inl (by rw [hexEnc_length, ht])), ht]
  rfl
theorem traceT_enc {t : List UInt8} (ht : t.length = 16) : traceT (hexEnc t) = t := by
  unfold traceT
  rw [hexDec_enc]
  simp only
  rw [if_pos (.inl (by rw [hexEnc_length, ht])), ht]
  simp [zb]
theorem spanC_enc {x : List UInt8} (hx : x.length = 8) : spanC (hexEnc x) = if x = zb 8 then 10 else 0 := by
  unfold spanC
  rw [hexDec_enc]
  simp only
  rw [if_pos (by rw [hexEnc_length, hx])]
theorem spanT_enc {x : List UInt8} (hx : x.length = 8) : spanT (hexEnc x) = x := by
  unfold spanT
  rw [hexDec_enc]
  simp only
  rw [if_pos (by rw [hexEnc_length, hx])]
theorem hexEnc_nil_iff (l : List UInt8) : hexEnc l = [] ↔ l = [] := by
  constructor
  · intro h
    have := hexEnc_length l
    rw [h] at this
    exact List.eq_nil_of_length_eq_zero (by simp at this; omega)
  · rintro rfl; rfl
theorem idsR_enc {t x : List UInt8} (ht : t.length = 16) (hx : x.length = 8) (h1 : t ≠ zb 16) (h2 : x ≠ zb 8) : idsR (hexEnc t) (hexEnc x) = (t, x, zb 8, 0, 0) := by
  unfold idsR
  rw [traceC_enc ht, spanC_enc hx, if_neg h1, if_neg h2, if_pos rfl, if_pos rfl, traceT_enc ht, spanT_enc hx]
theorem mayC_of {t x p : List UInt8} {k : Int} (h : mayC t x p k = true) : 0 ≤ k ∧ k ≤ 3 ∧ (t = zb 16 ↔ x = zb 8) ∧ (t = zb 16 → p = zb 8) := by
  unfold mayC at h
  simp only [Bool.and_eq_true, Bool.or_eq_true, decide_eq_true_eq, beq_iff_eq, Bool.not_eq_true', beq_eq_false_iff_ne] at h
  obtain ⟨⟨⟨h0, h3⟩, he⟩, hp⟩ := h
  refine ⟨h0, h3, ?_, fun e => hp.resolve_left (fun n => n e)⟩
  constructor
  · intro e
    have : (x == zb 8) = true := by rw [← he]; simpa using e
    simpa using this
  · intro e
    have : (t == zb 16) = true := by rw [he]; simpa using e
    simpa using this
theorem multi_back {t x p : List UInt8} {k : Int} (ht : t.length = 16) (hx : x.length = 8) (hp : p.length = 8) (h : mayC t x p k = true) : multiR (multiT t x p k) = (t, x, p, k, 0) := by
  obtain ⟨h0, h3, htx, htp⟩ := mayC_of h
  have hs : sampR (if k = 3 then [] else letterS k) (if k = 3 then [49] else []) = (k, 0) := by
    rcases (by omega : k = 0 ∨ k = 1 ∨ k = 2 ∨ k = 3) with rfl | rfl | rfl | rfl <;> rfl
  have nz16 : zb 16 ≠ [] := by decide
  have nz8 : zb 8 ≠ [] := by decide
  have nt : t ≠ [] := by rintro rfl; cases ht
  have nx : x ≠ [] := by rintro rfl; cases hx
  have np : p ≠ [] := by rintro rfl; cases hp
  unfold multiT
  rw [if_pos h]
  unfold multiR
  simp only
  rw [hs]
  by_cases e : t = zb 16
  · obtain rfl := htp e
    have ex := htx.1 e
    subst ex
    rw [if_pos e, if_pos e]
    have hw : within (zb 8) = [] := if_pos rfl
    rw [hw, if_neg (by unfold halfM; simp)]
    show sampledR (cxBad 0) (k, 0) = _
    rw [e]
    rfl
  · have ex : x ≠ zb 8 := fun q => e (htx.2 q)
    rw [if_neg e, if_neg e]
    rw [if_neg (by unfold halfM; simp [hexEnc_nil_iff, nt, nx])]
    unfold pairR
    rw [if_neg (by rw [hexEnc_nil_iff]; exact nt), idsR_enc ht hx e ex]
    unfold within withinR
    by_cases ep : p = zb 8
    · subst ep
      rw [if_pos rfl, if_pos rfl]
      rfl
    · rw [if_neg ep, if_neg (by rw [hexEnc_nil_iff]; exact np)]
      unfold parR
      rw [if_pos rfl, spanC_enc hp, if_neg ep, if_pos rfl, spanT_enc hp]
      rfl
theorem one_back {t x p : List UInt8} {k : Int} (ht : t.length = 16) (hx : x.length = 8) (hp : p.length = 8) (h : mayC t x p k = true) (hn : oneT t x p k ≠ []) :
    oneR (oneT t x p k) = (t, x, if k = 0 then zb 8 else p, k, 0) := by
  obtain ⟨h0, h3, htx, htp⟩ := mayC_of h
  unfold oneT at hn ⊢
  rw [if_pos h] at hn ⊢
  unfold oneR
  by_cases e : t = zb 16
  · obtain rfl := htp e
    have ex := htx.1 e
    subst ex
    rw [if_pos e] at hn ⊢
    rw [cutB_none (letterS_nodash k)]
    have hk : k = 1 ∨ k = 2 ∨ k = 3 := Classical.byContradiction fun q => hn (letterS_zero q)
    show (if keepS (letterS k) = 0 then _ else _) = _
    rw [keepS_letter hk, if_neg (by omega), if_neg (by omega), e]
  · have ex : x ≠ zb 8 := fun q => e (htx.2 q)
    rw [if_neg e]
    by_cases hk0 : k = 0
    · rw [if_pos hk0, if_pos hk0, List.append_nil, List.append_assoc, List.singleton_append, cutB_app (hexEnc_nodash t), cutB_none (hexEnc_nodash x)]
      show idsR _ _ = _
      rw [idsR_enc ht hx e ex, hk0]
    · have hk : k = 1 ∨ k = 2 ∨ k = 3 := by omega
      rw [if_neg hk0, if_neg hk0]
      by_cases ep : p = zb 8
      · rw [if_pos ep, List.append_nil]
        simp only [List.append_assoc, List.singleton_append, List.cons_append, List.nil_append]
        rw [cutB_app (hexEnc_nodash t), cutB_app (hexEnc_nodash x), cutB_none (letterS_nodash k)]
        show keepR (idsR _ _) _ = _
        rw [idsR_enc ht hx e ex]
        unfold keepR
        rw [if_pos rfl, keepS_letter hk, if_neg hk0, ep]
      · rw [if_neg ep]
        simp only [List.append_assoc, List.singleton_append, List.cons_append, List.nil_append]
        rw [cutB_app (hexEnc_nodash t), cutB_app (hexEnc_nodash x), cutB_app (letterS_nodash k), cutB_none (hexEnc_nodash p)]
        show parR (keepR (idsR _ _) _) _ = _
        rw [idsR_enc ht hx e ex]
        unfold keepR
        rw [if_pos rfl, keepS_letter hk, if_neg hk0]
        unfold parR
        rw [if_pos rfl, spanC_enc hp, if_neg ep, if_pos rfl, spanT_enc hp]
/-- A name of 16 digits is that of 32 with noughts ahead. -/
theorem traceC_pad {s : List UInt8} (h : s.length = 16) : traceC (rep48 ++ s) = traceC s ∧ traceT (rep48 ++ s) = traceT s := by
  have hl : (rep48 ++ s).length = 32 := by rw [List.length_append, h]; rfl
  unfold traceC traceT
  rw [hexDec_zeros]
  cases hd : hexDec s with
  | none => exact ⟨rfl, rfl⟩
  | some b =>
    have hb : b.length = 8 := by have := hexDec_length s b hd; omega
    have hb' : (zb 8 ++ b).length = 16 := by rw [List.length_append, hb]; rfl
    simp only [Option.map_some]
    have c1 : (rep48 ++ s).length = 32 ∨ (rep48 ++ s).length = 16 := .inl hl
    have c2 : s.length = 32 ∨ s.length = 16 := .inr h
    simp only [if_pos c1, if_pos c2, hb, hb']
    exact ⟨rfl, rfl⟩
def tail16 : List UInt8 := 45 :: [48, 48, 48, 48, 48, 48, 48, 48, 48, 48, 48, 48, 48, 48, 48, 49]
theorem one_pad {s : List UInt8} (h : s.length = 16) (hd : (45 : UInt8) ∉ s) : oneR (rep48 ++ s ++ tail16) = oneR (s ++ tail16) := by
  have hd' : (45 : UInt8) ∉ rep48 ++ s := by
    rw [List.mem_append]
    exact fun q => q.elim (by decide) hd
  unfold oneR tail16
  rw [cutB_app hd', cutB_app hd, cutB_none (by decide)]
  show idsR _ _ = idsR _ _
  unfold idsR
  rw [(traceC_pad h).1, (traceC_pad h).2]
end Go.Proofs.YtgfdmdikiickpaaDoor
