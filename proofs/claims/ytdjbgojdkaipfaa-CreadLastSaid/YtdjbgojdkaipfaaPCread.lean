/-
  The fields of a struct, the values of a list, as plain functions of the bytes ahead.
-/
import Derived.Test.YtdjbgojdkaipfaaCreadC
namespace Go.Proofs.Ytdjbgojdkaipfaa
open Go.RowKit

def joinS (p : Nat) (L : List Fd) (t : Int × Nat × List Fd) : Int × Nat × List Fd := if t.1 = 0 then (0, p + t.2.1, L ++ t.2.2) else (t.1, 0, [])
def stF (m : Nat) : Nat → Int → List UInt8 → Int × Nat × List Fd
  | 0, _, _ => (1, 0, [])
  | n + 1, last, a =>
    if (fieldR last a).1 = 0 then
      (if (fieldR last a).2.2.2 = 0 then (0, (fieldR last a).2.1, [])
       else if (valF m (fieldR last a).2.2.2 (a.drop (fieldR last a).2.1)).1 = 0 then
         joinS ((fieldR last a).2.1 + (valF m (fieldR last a).2.2.2 (a.drop (fieldR last a).2.1)).2) [contF (fieldR last a).2.2.1 (fieldR last a).2.2.2 ((a.drop (fieldR last a).2.1).take (valF m (fieldR last a).2.2.2 (a.drop (fieldR last a).2.1)).2)]
           (stF m n (fieldR last a).2.2.1 ((a.drop (fieldR last a).2.1).drop (valF m (fieldR last a).2.2.2 (a.drop (fieldR last a).2.1)).2))
       else ((valF m (fieldR last a).2.2.2 (a.drop (fieldR last a).2.1)).1, 0, []))
    else ((fieldR last a).1, 0, [])
theorem joinS_join (p q : Nat) (L K : List Fd) (t : Int × Nat × List Fd) : joinS p L (joinS q K t) = joinS (p + q) (L ++ K) t := by
  unfold joinS
  by_cases h : t.1 = 0
  · rw [if_pos h, if_pos rfl, if_pos h]
    simp only [Nat.add_assoc, List.append_assoc]
  · rw [if_neg h, if_neg h, if_neg h]
theorem joinS_0 (t : Int × Nat × List Fd) (h : t.1 ≠ 0 → t = (t.1, 0, [])) : joinS 0 [] t = t := by
  unfold joinS
  by_cases q : t.1 = 0
  · rw [if_pos q, ← q]; simp
  · rw [if_neg q]; exact (h q).symm
theorem stF_bad (m : Nat) : ∀ (n : Nat) (last : Int) (a : List UInt8), (stF m n last a).1 ≠ 0 → stF m n last a = ((stF m n last a).1, 0, [])
  | 0, _, _, _ => rfl
  | n + 1, last, a, h => by
    unfold stF at h ⊢
    split
    · rename_i h1
      rw [if_pos h1] at h
      split
      · rename_i h2
        rw [if_pos h2] at h
        exact absurd rfl h
      · rename_i h2
        rw [if_neg h2] at h
        split
        · rename_i h3
          rw [if_pos h3] at h
          unfold joinS at h ⊢
          split
          · rename_i h4
            rw [if_pos h4] at h
            exact absurd rfl h
          · rfl
        · rfl
    · rfl
/-- What is left is all. -/
structure LS (m N : Nat) (s : List UInt8) (c : Cu) (last : Int) (L : List Fd) (n : Nat) : Prop where
  fit : c.fit
  cs : c.s = s
  en : c.en = s.length
  good : c.code = 0 → c.ahead.length < n ∧ stF m N 0 s = joinS c.pos L (stF m n last c.ahead)
  bad : c.code ≠ 0 → stF m N 0 s = (c.code, 0, [])
theorem LS.start (m : Nat) (s : List UInt8) (h : s.length ≤ 1125899906842624) : LS m (s.length + 1) s (Cu.start s) 0 [] (s.length + 1) :=
  ⟨⟨Nat.zero_le _, Nat.le_refl _, h⟩, rfl, rfl, fun _ => by
    have e : (Cu.start s).ahead = s := by show (s.take s.length).drop 0 = s; rw [List.take_length]; rfl
    rw [e]
    exact ⟨by omega, (joinS_0 _ (stF_bad m _ _ _)).symm⟩, fun h => absurd rfl h⟩
/-- The struct ends. -/
theorem LS.done {m N n : Nat} {s : List UInt8} {c c' : Cu} {last : Int} {L : List Fd} (h : LS m N s c last L n) (h0 : c.code = 0) (hr : RdF (fun a => ((fieldR last a).1, (fieldR last a).2.1)) c c') (hk : (fieldR last c.ahead).2.2.2 = 0) :
    stF m N 0 s = if c'.code = 0 then (0, c'.pos, L) else (c'.code, 0, []) := by
  obtain ⟨g1, g2⟩ := h.good h0
  obtain ⟨q, rfl⟩ : ∃ q, n = q + 1 := ⟨n - 1, by omega⟩
  obtain ⟨r1, r2⟩ := hr.good h0
  rw [g2]
  unfold stF
  by_cases hz : (fieldR last c.ahead).1 = 0
  · have e := r2 hz
    rw [if_pos hz, if_pos hk, if_pos (r1.trans hz), e]
    simp [joinS]
  · rw [if_neg hz, if_neg (fun q => hz (r1.symm.trans q)), r1]
    unfold joinS
    rw [if_neg hz]
/-- One field more. -/
theorem LS.next {m N n : Nat} {s : List UInt8} {c c1 c2 : Cu} {last : Int} {L : List Fd} {F : Fd} (h : LS m N s c last L n) (h0 : c.code = 0) (hr : RdF (fun a => ((fieldR last a).1, (fieldR last a).2.1)) c c1) (hk : (fieldR last c.ahead).2.2.2 ≠ 0)
    (hv : RdF (valF m (fieldR last c.ahead).2.2.2) c1 c2) (hF : c1.code = 0 → c2.code = 0 → F = contF (fieldR last c.ahead).2.2.1 (fieldR last c.ahead).2.2.2 (c1.ahead.take (valF m (fieldR last c.ahead).2.2.2 c1.ahead).2)) :
    LS m N s c2 (fieldR last c.ahead).2.2.1 (L ++ [F]) (n - 1) := by
  obtain ⟨g1, g2⟩ := h.good h0
  obtain ⟨q, rfl⟩ : ∃ q, n = q + 1 := ⟨n - 1, by omega⟩
  obtain ⟨r1, r2⟩ := hr.good h0
  have hz : (fieldR last c.ahead).1 = 0 := fieldR_ok last c.ahead hk
  have e1 := r2 hz
  have h1 : c1.code = 0 := r1.trans hz
  have ha : c1.ahead = c.ahead.drop (fieldR last c.ahead).2.1 := by rw [e1]; exact (ahead_drop c _).symm
  obtain ⟨p1, p2⟩ := fieldR_pos last c.ahead hz
  obtain ⟨v1, v2⟩ := hv.good h1
  refine ⟨hv.fit, hv.s.trans (hr.s.trans h.cs), hv.en.trans (hr.en.trans h.en), fun h2 => ?_, fun h2 => ?_⟩
  · have hvz := v1.symm.trans h2
    have e2 := v2 hvz
    have ha2 : c2.ahead = c1.ahead.drop (valF m (fieldR last c.ahead).2.2.2 c1.ahead).2 := by rw [e2]; exact (ahead_drop c1 _).symm
    refine ⟨by rw [ha2, ha, List.length_drop, List.length_drop]; omega, ?_⟩
    rw [g2]
    conv => lhs; unfold stF
    rw [if_pos hz, if_neg hk, ← ha, if_pos hvz, joinS_join, ← hF h1 h2, ← ha2]
    have hp : c2.pos = c.pos + ((fieldR last c.ahead).2.1 + (valF m (fieldR last c.ahead).2.2.2 c1.ahead).2) := by rw [e2, e1, Nat.add_assoc]
    rw [hp]; rfl
  · have hvz : (valF m (fieldR last c.ahead).2.2.2 c1.ahead).1 ≠ 0 := fun q => h2 (v1.trans q)
    rw [g2]
    conv => lhs; unfold stF
    rw [if_pos hz, if_neg hk, ← ha, if_neg hvz, v1]
    unfold joinS
    rw [if_neg hvz]
/-- The struct that begins a text. -/
def structO (s : List UInt8) (deep : Int) : Int × Nat × List Fd := if 32 ≤ deep then (33, 0, []) else stF (32 - (deep + 1)).toNat (s.length + 1) 0 s
end Go.Proofs.Ytdjbgojdkaipfaa
