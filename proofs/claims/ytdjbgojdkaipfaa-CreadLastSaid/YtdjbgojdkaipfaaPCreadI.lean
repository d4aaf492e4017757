/-
  The values of a list, as plain functions of the bytes ahead.
-/
import Derived.Test.YtdjbgojdkaipfaaPCread
namespace Go.Proofs.Ytdjbgojdkaipfaa
open Go.RowKit

def valI (m : Nat) (k : Int) (a : List UInt8) : Int × Nat := if k = 1 ∨ k = 2 then truthR a else valF m k a
def contI (i k : Int) (v : List UInt8) : Fd := if k = 1 ∨ k = 2 then (if byteAt v 0 = 1 then ⟨i, 1, 1, 0, [], []⟩ else ⟨i, 2, 0, 0, [], []⟩) else contF i k v
def itF (m : Nat) (k : Int) : Nat → Int → List UInt8 → Int × Nat × List Fd
  | 0, _, _ => (0, 0, [])
  | n + 1, i, a => if (valI m k a).1 = 0 then joinS (valI m k a).2 [contI i k (a.take (valI m k a).2)] (itF m k n (i + 1) (a.drop (valI m k a).2)) else ((valI m k a).1, 0, [])
theorem itF_bad (m : Nat) (k : Int) : ∀ (n : Nat) (i : Int) (a : List UInt8), (itF m k n i a).1 ≠ 0 → itF m k n i a = ((itF m k n i a).1, 0, [])
  | 0, _, _, h => absurd rfl h
  | n + 1, i, a, h => by
    unfold itF at h ⊢
    split
    · rename_i h1
      rw [if_pos h1] at h
      unfold joinS at h ⊢
      split
      · rename_i h4
        rw [if_pos h4] at h
        exact absurd rfl h
      · rfl
    · rfl
theorem skip_nil (m : Nat) (k : Int) (h : ¬ (k = 1 ∨ k = 2)) : (skipV m k []).1 ≠ 0 := by
  obtain ⟨hh, e⟩ : ∃ h, skipV m k = flatR h k ∧ (9 ≤ k ∧ k ≤ 12 → (h k []).1 ≠ 0) := by
    cases m with
    | zero => exact ⟨_, rfl, fun _ => by show ((33 : Int)) ≠ 0; decide⟩
    | succ m =>
      refine ⟨_, rfl, fun hk => ?_⟩
      unfold heldR
      split
      · show (fieldsR (skipV m) (0 + 1) 0 []).1 ≠ 0
        unfold fieldsR
        have : (fieldR 0 []).1 ≠ 0 := by decide
        rw [if_neg this]
        exact this
      · split
        · unfold mapsR seqR
          have : (mapR []).1 ≠ 0 := by decide +kernel
          rw [if_neg this]
          exact this
        · unfold listsR seqR
          have : (listR []).1 ≠ 0 := by decide +kernel
          rw [if_neg this]
          exact this
  rw [e.1]
  unfold flatR
  rw [if_neg h]
  split
  · show (1 : Int) ≠ 0; decide
  · split
    · show vcode [] ≠ 0
      decide +kernel
    · split
      · show (1 : Int) ≠ 0; decide
      · split
        · unfold textR
          have : vcode [] ≠ 0 := by decide +kernel
          rw [if_neg this]
          exact this
        · split
          · rename_i h9
            exact e.2 h9
          · show (7 : Int) ≠ 0; decide
theorem skip_pos {m : Nat} {k : Int} {a : List UInt8} (h : ¬ (k = 1 ∨ k = 2)) (h0 : (skipV m k a).1 = 0) : 1 ≤ (skipV m k a).2 := by
  rcases Nat.eq_zero_or_pos (skipV m k a).2 with hz | hz
  · obtain ⟨_, h2, _⟩ := pre_skip m k a h0
    have := h2 []
    rw [hz, List.take_zero, List.append_nil] at this
    exact absurd (by rw [this]; exact h0) (skip_nil m k h)
  · exact hz
theorem numb_len {bits : Int} {a : List UInt8} (h : (numbR bits a).1 = 0) : vcode a = 0 ∧ fitC (zagV (vnum a)) bits = 0 ∧ numbR bits a = (0, vlen 10 a) := by
  unfold numbR at h ⊢
  by_cases q : vcode a = 0
  · rw [if_pos q] at h ⊢
    by_cases r : fitC (zagV (vnum a)) bits = 0
    · rw [if_pos r]; exact ⟨q, r, rfl⟩
    · rw [if_neg r] at h; exact absurd h r
  · rw [if_neg q] at h; exact absurd h q
/-- A value's way and its fit. -/
theorem valF_skip (m : Nat) (k : Int) (a : List UInt8) : (valF m k a).1 = (if (skipV m k a).1 = 0 ∧ 4 ≤ k ∧ k ≤ 6 then fitC (zagV (vnum (a.take (skipV m k a).2))) (bitsK k) else (skipV m k a).1) ∧ ((valF m k a).1 = 0 → valF m k a = skipV m k a) := by
  obtain ⟨hh, e⟩ := skipV_flat m k
  by_cases hk : 4 ≤ k ∧ k ≤ 6
  · have hs : skipV m k a = varR a := by rw [e]; unfold flatR; rw [if_neg (by omega), if_neg (by omega), if_pos hk]
    have hv : valF m k a = numbR (bitsK k) a := by unfold valF; rw [if_pos hk]
    rw [hs, hv]
    refine ⟨?_, fun h => ?_⟩
    · by_cases q : vcode a = 0
      · have e1 : (numbR (bitsK k) a).1 = fitC (zagV (vnum a)) (bitsK k) := by
          unfold numbR
          rw [if_pos q]
          split
          · rename_i r; exact r.symm
          · rfl
        rw [e1, if_pos (show (varR a).1 = 0 ∧ 4 ≤ k ∧ k ≤ 6 from ⟨q, hk⟩)]
        show _ = fitC (zagV (vnum (a.take (vlen 10 a)))) _
        rw [vnum_self q]
      · have e1 : (numbR (bitsK k) a).1 = vcode a := by
          unfold numbR
          rw [if_neg q]
        rw [e1, if_neg (fun h => q h.1)]; rfl
    · obtain ⟨q, _, r⟩ := numb_len h
      rw [r]; unfold varR; rw [q]
  · have hv : valF m k a = skipV m k a := by unfold valF; rw [if_neg hk]
    rw [hv]
    exact ⟨by rw [if_neg (fun h => hk h.2)], fun _ => rfl⟩
theorem valI_pos {m : Nat} {k : Int} {a : List UInt8} (h0 : (valI m k a).1 = 0) : 1 ≤ (valI m k a).2 := by
  unfold valI at h0 ⊢
  by_cases hk : k = 1 ∨ k = 2
  · rw [if_pos hk] at h0 ⊢
    cases a with
    | nil => exact absurd h0 (by show ¬ (1 : Int) = 0; decide)
    | cons b r =>
      simp only [truthR] at h0 ⊢
      split
      · rename_i q; rw [if_pos q] at h0; exact absurd h0 (by decide)
      · exact Nat.le_refl _
  · rw [if_neg hk] at h0 ⊢
    have e := (valF_skip m k a).2 h0
    rw [e] at h0 ⊢
    exact skip_pos hk h0
/-- The list's values, head and all. -/
def listF (m : Nat) (s : List UInt8) : Int × Nat × List Fd :=
  if (listR s).1 = 0 then joinS (listR s).2.1 [] (itF m (listR s).2.2.2 (listR s).2.2.1.toNat 0 (s.drop (listR s).2.1)) else ((listR s).1, 0, [])
/-- What is left is all. -/
structure LI (m : Nat) (k : Int) (N : Nat) (s : List UInt8) (c : Cu) (L : List Fd) (i : Nat) : Prop where
  fit : c.fit
  cs : c.s = s
  en : c.en = s.length
  le : i ≤ N
  good : c.code = 0 → L.length ≤ c.pos ∧ listF m s = joinS c.pos L (itF m k (N - i) (i : Int) c.ahead)
  bad : c.code ≠ 0 → listF m s = (c.code, 0, [])
  len : L.length ≤ s.length + 1
theorem LI.next {m N i : Nat} {k : Int} {s : List UInt8} {c c2 : Cu} {L : List Fd} {F : Fd} (h : LI m k N s c L i) (h0 : c.code = 0) (hi : i < N) (hv : RdF (valI m k) c c2)
    (hF : c2.code = 0 → F = contI (i : Int) k (c.ahead.take (valI m k c.ahead).2)) : LI m k N s c2 (L ++ [F]) (i + 1) := by
  obtain ⟨g1, g2⟩ := h.good h0
  obtain ⟨v1, v2⟩ := hv.good h0
  obtain ⟨n, hn⟩ : ∃ n, N - i = n + 1 := ⟨N - i - 1, by omega⟩
  have hn' : N - (i + 1) = n := by omega
  have hpe := h.fit.le1
  have hen := h.en
  rw [hn] at g2
  refine ⟨hv.fit, hv.s.trans h.cs, hv.en.trans h.en, hi, fun h2 => ?_, fun h2 => ?_, ?_⟩
  · have hvz := v1.symm.trans h2
    have e2 := v2 hvz
    have hp := valI_pos hvz
    have ha2 : c2.ahead = c.ahead.drop (valI m k c.ahead).2 := by rw [e2]; exact (ahead_drop c _).symm
    have hp2 : c2.pos = c.pos + (valI m k c.ahead).2 := by rw [e2]
    refine ⟨by rw [List.length_append, List.length_singleton, hp2]; omega, ?_⟩
    rw [g2, hn']
    conv => lhs; unfold itF
    rw [if_pos hvz, joinS_join, ← hF h2, ← ha2, hp2]
    rfl
  · have hvz : (valI m k c.ahead).1 ≠ 0 := fun q => h2 (v1.trans q)
    rw [g2]
    conv => lhs; unfold itF
    rw [if_neg hvz, v1]
    unfold joinS
    rw [if_neg hvz]
  · rw [List.length_append, List.length_singleton]; omega
/-- The list that is a text. -/
def itemsO (s : List UInt8) (deep : Int) : Int × List Fd :=
  if 32 ≤ deep then (33, []) else if (listF (32 - (deep + 1)).toNat s).1 = 0 then
    (if (listF (32 - (deep + 1)).toNat s).2.1 < s.length then (2, []) else (0, (listF (32 - (deep + 1)).toNat s).2.2))
  else ((listF (32 - (deep + 1)).toNat s).1, [])
theorem LI.start (m : Nat) {s : List UInt8} {c : Cu} (hr : Rd (Cu.start s) c (listR s).1 (listR s).2.1) : LI m (listR s).2.2.2 (listR s).2.2.1.toNat s c [] 0 := by
  obtain ⟨g1, g2⟩ := hr.good rfl
  refine ⟨hr.fit, hr.s, hr.en, Nat.zero_le _, fun h => ?_, fun h => ?_, Nat.zero_le _⟩
  · have hz := g1.symm.trans h
    have e := g2 hz
    have ha : c.ahead = s.drop (listR s).2.1 := by
      rw [e]
      show (s.take s.length).drop (0 + (listR s).2.1) = _
      rw [List.take_length, Nat.zero_add]
    have hp : c.pos = (listR s).2.1 := by rw [e]; show 0 + (listR s).2.1 = _; omega
    refine ⟨Nat.zero_le _, ?_⟩
    unfold listF
    rw [if_pos hz, ha, hp, Nat.sub_zero]
    rfl
  · unfold listF
    rw [if_neg (fun q => h (g1.trans q)), g1]
/-- How the list ends. -/
theorem LI.done {deep : Int} {k : Int} {N : Nat} {s : List UInt8} {c : Cu} {L : List Fd} {i : Nat} (hd : ¬ 32 ≤ deep) (h : LI (32 - (deep + 1)).toNat k N s c L i) (hend : c.code = 0 → i = N) :
    itemsO s deep = (c.fin, if c.fin = 0 then L else []) := by
  unfold itemsO
  rw [if_neg hd]
  by_cases h0 : c.code = 0
  · obtain ⟨g1, g2⟩ := h.good h0
    have g3 : joinS c.pos L (itF (32 - (deep + 1)).toNat k (N - i) (i : Int) c.ahead) = (0, c.pos, L) := by
      rw [hend h0, Nat.sub_self]
      simp [joinS, itF]
    rw [g2, g3, if_pos rfl]
    have hfin : c.fin = if c.pos < s.length then 2 else 0 := by unfold Cu.fin; rw [if_neg (fun q => q h0), h.en]
    rw [hfin]
    by_cases hp : c.pos < s.length
    · simp [hp]
    · simp [hp]
  · have hf : c.fin = c.code := by unfold Cu.fin; rw [if_pos h0]
    rw [hf, if_neg h0, h.bad h0, if_neg h0]
end Go.Proofs.Ytdjbgojdkaipfaa
