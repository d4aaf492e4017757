/-
  What was gone past is gone past again alone, whatever stands behind it; less of it is not enough.
-/
import Derived.Test.YtdjbgojdkaipfaaPSkip
namespace Go.Proofs.Ytdjbgojdkaipfaa
open Go.RowKit

def PreD {D : Type} (h : List UInt8 → Int × Nat × D) (a : List UInt8) : Prop :=
  (h a).1 = 0 → (h a).2.1 ≤ a.length ∧ (∀ r, h (a.take (h a).2.1 ++ r) = h a) ∧ ∀ m, m < (h a).2.1 → (h (a.take m)).1 = 1
def Pre (f : List UInt8 → Int × Nat) (a : List UInt8) : Prop :=
  (f a).1 = 0 → (f a).2 ≤ a.length ∧ (∀ r, f (a.take (f a).2 ++ r) = f a) ∧ ∀ m, m < (f a).2 → (f (a.take m)).1 = 1
def bindD {D : Type} (h : List UInt8 → Int × Nat × D) (G : D → List UInt8 → Int × Nat) (x : List UInt8) : Int × Nat :=
  if (h x).1 = 0 then ((G (h x).2.2 (x.drop (h x).2.1)).1, (h x).2.1 + (G (h x).2.2 (x.drop (h x).2.1)).2) else ((h x).1, 0)
theorem drop_take_app (a r : List UInt8) (n : Nat) (h : n ≤ a.length) : (a.take n ++ r).drop n = r := by
  rw [List.drop_append_of_le_length (by rw [List.length_take]; omega), List.drop_eq_nil_of_le (by rw [List.length_take]; omega), List.nil_append]
theorem Pre.bind {D : Type} {h : List UInt8 → Int × Nat × D} {G : D → List UInt8 → Int × Nat} {a : List UInt8} (H : PreD h a)
    (K : (h a).1 = 0 → Pre (G (h a).2.2) (a.drop (h a).2.1)) : Pre (bindD h G) a := by
  intro h0
  by_cases hh : (h a).1 = 0
  case neg => simp only [bindD, if_neg hh] at h0; exact absurd h0 hh
  obtain ⟨b1, b2, b3⟩ := H hh
  have e : bindD h G a = ((G (h a).2.2 (a.drop (h a).2.1)).1, (h a).2.1 + (G (h a).2.2 (a.drop (h a).2.1)).2) := by simp only [bindD, if_pos hh]
  rw [e] at h0 ⊢
  obtain ⟨k1, k2, k3⟩ := K hh h0
  simp only [] at h0 ⊢
  generalize hn : (h a).2.1 = n at *
  generalize hd : (h a).2.2 = d at *
  generalize hg : G d (a.drop n) = g at *
  rw [List.length_drop] at k1
  refine ⟨by omega, fun r => ?_, fun m hm => ?_⟩
  · have ht : a.take (n + g.2) ++ r = a.take n ++ ((a.drop n).take g.2 ++ r) := by rw [List.take_add, List.append_assoc]
    have h1 : h (a.take (n + g.2) ++ r) = h a := by rw [ht]; exact b2 _
    have h2 : (a.take (n + g.2) ++ r).drop n = (a.drop n).take g.2 ++ r := by rw [ht]; exact drop_take_app _ _ _ b1
    unfold bindD
    rw [h1, if_pos hh, hn, hd, h2, k2 r]
  · by_cases hmn : m < n
    · have := b3 m hmn
      unfold bindD
      rw [if_neg (by rw [this]; decide)]
      exact this
    · have ht : a.take m = a.take n ++ (a.drop n).take (m - n) := by rw [← List.take_add, show n + (m - n) = m by omega]
      have h1 : h (a.take m) = h a := by rw [ht]; exact b2 _
      have h2 : (a.take m).drop n = (a.drop n).take (m - n) := by rw [ht]; exact drop_take_app _ _ _ b1
      unfold bindD
      rw [h1, if_pos hh, hn, hd, h2]
      exact k3 (m - n) (by omega)
theorem Pre.congr {f g : List UInt8 → Int × Nat} {a : List UInt8} (H : Pre g a) (e : ∀ x, (f x).1 = (g x).1 ∧ ((f x).1 = 0 → f x = g x)) : Pre f a := by
  intro h0
  obtain ⟨e1, e2⟩ := e a
  have ef := e2 h0
  obtain ⟨b1, b2, b3⟩ := H (e1 ▸ h0)
  rw [ef]
  refine ⟨b1, fun r => ?_, fun m hm => (e _).1.trans (b3 m hm)⟩
  obtain ⟨q1, q2⟩ := e (a.take (g a).2 ++ r)
  rw [b2 r] at q1 q2
  exact q2 (q1.trans (e1.symm.trans h0))
def unitD (f : List UInt8 → Int × Nat) (a : List UInt8) : Int × Nat × Unit := ((f a).1, (f a).2, ())
theorem Pre.unit {f : List UInt8 → Int × Nat} {a : List UInt8} (H : Pre f a) : PreD (unitD f) a := by
  intro h0
  obtain ⟨b1, b2, b3⟩ := H h0
  exact ⟨b1, fun r => by show ((f (a.take (f a).2 ++ r)).1, (f (a.take (f a).2 ++ r)).2, ()) = _; rw [b2 r]; rfl, b3⟩
theorem Pre.seq {R G : List UInt8 → Int × Nat} {a : List UInt8} (H : Pre R a) (K : (R a).1 = 0 → Pre G (a.drop (R a).2)) : Pre (fun x => seqR (R x) G x) a :=
  (Pre.bind (h := unitD R) (G := fun _ => G) H.unit K).congr (fun _ => ⟨rfl, fun _ => rfl⟩)
theorem pre_nil (a : List UInt8) : Pre (fun _ => (0, 0)) a := fun _ => ⟨Nat.zero_le _, fun _ => rfl, fun m hm => absurd hm (Nat.not_lt_zero m)⟩
theorem pre_fail (k : Int) (hk : k ≠ 0) (a : List UInt8) : Pre (fun _ => (k, 0)) a := fun h => absurd h hk
theorem pre_take (n : Nat) (a : List UInt8) : Pre (takeR n) a := by
  intro h0
  have hn : ¬ a.length < n := by
    intro h
    rw [takeR, if_pos h] at h0
    exact absurd h0 (by decide)
  have e : takeR n a = (0, n) := by rw [takeR, if_neg hn]
  rw [e]
  refine ⟨by show n ≤ a.length; omega, fun r => ?_, fun m hm => ?_⟩
  · rw [takeR, if_neg (by rw [List.length_append, List.length_take]; omega)]
  · have hm' : m < n := hm
    rw [takeR, if_pos (by rw [List.length_take]; omega)]
theorem vlen_ext (f : Nat) : ∀ (l r : List UInt8), vlen f l ≠ 0 → vlen f (l.take (vlen f l) ++ r) = vlen f l := by
  induction f with
  | zero => intro l r h; exact absurd rfl h
  | succ f ih =>
    intro l r h
    cases l with
    | nil => exact absurd rfl h
    | cons b l =>
      by_cases hb : bi b < 128
      · simp [vlen, hb]
      · by_cases hv : vlen f l = 0
        · exact absurd (by simp [vlen, hb, hv]) h
        · have e : vlen (f + 1) (b :: l) = vlen f l + 1 := by simp [vlen, hb, hv]
          rw [e, List.take_succ_cons, List.cons_append]
          have := ih l r hv
          simp only [vlen]
          rw [if_neg hb, this, if_neg hv]
theorem vlen_cut (f : Nat) : ∀ (l : List UInt8) (m : Nat), m < vlen f l → vlen f (l.take m) = 0 := by
  induction f with
  | zero => intro l m h; exact absurd h (Nat.not_lt_zero m)
  | succ f ih =>
    intro l m h
    cases m with
    | zero => rfl
    | succ m =>
      cases l with
      | nil => exact absurd h (Nat.not_lt_zero _)
      | cons b l =>
        by_cases hb : bi b < 128
        · simp [vlen, hb] at h
        · by_cases hv : vlen f l = 0
          · simp [vlen, hb, hv] at h
          · have e : vlen (f + 1) (b :: l) = vlen f l + 1 := by simp [vlen, hb, hv]
            have := ih l m (by omega)
            simp [vlen, hb, this]
theorem vval_ext : ∀ (n : Nat) (l r : List UInt8), n ≤ l.length → vval n (l.take n ++ r) = vval n l
  | 0, _, _, _ => rfl
  | n + 1, [], _, h => by simp at h
  | n + 1, b :: l, r, h => by
    have := vval_ext n l r (by simpa using h)
    simp only [List.take_succ_cons, List.cons_append, vval, this]
def varD (a : List UInt8) : Int × Nat × Int := (vcode a, vlen 10 a, vnum a)
theorem byteAt_app (l r : List UInt8) (k : Nat) (h : k < l.length) : byteAt (l ++ r) k = byteAt l k := by
  unfold byteAt
  simp [List.getD, List.getElem?_append_left h]
theorem byteAt_tk (l : List UInt8) (k n : Nat) (h : k < n) : byteAt (l.take n) k = byteAt l k := by
  unfold byteAt
  simp [List.getD, List.getElem?_take, h]
theorem pre_var (a : List UInt8) : PreD varD a := by
  intro h0
  have h0 : vcode a = 0 := h0
  obtain ⟨l1, l2⟩ := vlen_le 10 a
  have hv : vlen 10 a ≠ 0 := by
    intro hz
    unfold vcode at h0
    split at h0
    · exact absurd h0 (by decide)
    · first
        | exact absurd h0 (by decide)
        | (rw [if_pos hz] at h0; exact absurd h0 (by decide))
  have h9 : vlen 10 a = 10 → ¬ 1 < byteAt a 9 := by
    intro h10 hb
    unfold vcode at h0
    rw [if_pos ⟨by omega, Or.inr h10, hb⟩] at h0
    exact absurd h0 (by decide)
  show vlen 10 a ≤ a.length ∧ (∀ r, varD (a.take (vlen 10 a) ++ r) = varD a) ∧ ∀ m, m < vlen 10 a → vcode (a.take m) = 1
  refine ⟨l1, fun r => ?_, fun m hm => ?_⟩
  · have e1 := vlen_ext 10 a r hv
    have e2 : vcode (a.take (vlen 10 a) ++ r) = 0 := by
      unfold vcode
      rw [e1, if_neg, if_neg hv]
      rintro ⟨_, h2, h3⟩
      rcases h2 with h2 | h2
      · exact hv h2
      · rw [byteAt_app _ _ _ (by rw [List.length_take]; omega), byteAt_tk _ _ _ (by omega)] at h3
        exact h9 h2 h3
    unfold varD
    rw [e1, e2, h0]
    unfold vnum
    rw [e2, h0, if_pos rfl, if_pos rfl, e1, vval_ext _ _ _ l1]
  · have e := vlen_cut 10 a m hm
    unfold vcode
    rw [e, if_neg (by rw [List.length_take]; omega), if_pos rfl]
theorem pre_varR (a : List UInt8) : Pre varR a := by
  intro h0
  obtain ⟨b1, b2, b3⟩ := pre_var a h0
  exact ⟨b1, fun r => by have := b2 r; simp only [varD, Prod.mk.injEq] at this; show ((vcode _, vlen 10 _) : Int × Nat) = (vcode a, vlen 10 a); exact Prod.ext this.1 this.2.1, b3⟩
theorem pre_text (a : List UInt8) : Pre textR a := by
  refine (Pre.bind (h := varD) (G := fun u => takeR u.toNat) (pre_var a) (fun _ => pre_take _ _)).congr (fun x => ?_)
  have hb := vnum_bd x
  by_cases hv : vcode x = 0
  · have e1 : bindD varD (fun u => takeR u.toNat) x = ((takeR (vnum x).toNat (x.drop (vlen 10 x))).1, vlen 10 x + (takeR (vnum x).toNat (x.drop (vlen 10 x))).2) := by
      unfold bindD; exact if_pos hv
    rw [e1, textR, if_pos hv]
    by_cases hl : ((x.length - vlen 10 x : Nat) : Int) < vnum x
    · rw [if_pos hl, takeR, if_pos (by rw [List.length_drop]; omega)]
      exact ⟨rfl, fun h => absurd h (by decide)⟩
    · rw [if_neg hl, takeR, if_neg (by rw [List.length_drop]; omega)]
      exact ⟨rfl, fun _ => rfl⟩
  · have e1 : bindD varD (fun u => takeR u.toNat) x = (vcode x, 0) := by
      unfold bindD; exact if_neg hv
    rw [e1, textR, if_neg hv]
    exact ⟨rfl, fun _ => rfl⟩
theorem pre_truth (a : List UInt8) : Pre truthR a := by
  intro h0
  cases a with
  | nil => exact absurd (show (1 : Int) = 0 from h0) (by decide)
  | cons b l =>
    have hb : ¬ 2 < bi b := by
      intro h
      simp only [truthR, if_pos h] at h0
      exact absurd h0 (by decide)
    have e : ∀ x, truthR (b :: x) = (0, 1) := fun x => by simp only [truthR, if_neg hb]
    rw [e]
    refine ⟨by simp, fun r => ?_, fun m hm => ?_⟩
    · exact e _
    · have : m = 0 := by have hm : m < 1 := hm; omega
      subst this
      rfl
theorem pre_size (a : List UInt8) : PreD sizeR a := by
  intro h0
  have hv : vcode a = 0 := by
    by_cases hv : vcode a = 0
    · exact hv
    · rw [sizeR, if_neg hv] at h0; exact absurd h0 hv
  have hu : vnum a ≤ 2147483647 := by
    by_cases hu : vnum a ≤ 2147483647
    · exact hu
    · rw [sizeR, if_pos hv, if_neg hu] at h0; exact absurd h0 (by decide)
  obtain ⟨b1, b2, b3⟩ := pre_var a hv
  have e : sizeR a = (0, vlen 10 a, vnum a) := by rw [sizeR, if_pos hv, if_pos hu]
  rw [e]
  refine ⟨b1, fun r => ?_, fun m hm => ?_⟩
  · have := b2 r
    simp only [varD, Prod.mk.injEq] at this
    obtain ⟨t1, t2, t3⟩ := this
    show sizeR (a.take (vlen 10 a) ++ r) = _
    rw [sizeR, t1, hv, if_pos rfl, t3, if_pos hu, t2]
  · have : vcode (a.take m) = 1 := b3 m hm
    rw [sizeR, if_neg (by rw [this]; decide)]
    exact this
theorem pre_field (last : Int) (a : List UInt8) : PreD (fieldR last) a := by
  intro h0
  cases a with
  | nil => exact absurd (show (1 : Int) = 0 from h0) (by decide)
  | cons b l =>
    by_cases hz : bi b = 0
    · have e : ∀ x, fieldR last (b :: x) = (0, 1, 0, 0) := fun x => by simp only [fieldR, if_pos hz]
      rw [e]
      refine ⟨by simp, fun r => e _, fun m hm => ?_⟩
      have : m = 0 := by have hm : m < 1 := hm; omega
      subst this; rfl
    · by_cases hk : isK (bi b % 16) = false
      · have e : fieldR last (b :: l) = (7, 0, 0, 0) := by simp only [fieldR, if_neg hz, if_pos hk]
        rw [e] at h0; exact absurd h0 (by decide)
      · by_cases hs : 0 < bi b / 16
        · by_cases hi : inR (last + bi b / 16) = true
          · have e : ∀ x, fieldR last (b :: x) = (0, 1, last + bi b / 16, bi b % 16) := fun x => by simp only [fieldR, if_neg hz, if_neg hk, if_pos hs, if_pos hi]
            rw [e]
            refine ⟨by simp, fun r => e _, fun m hm => ?_⟩
            have : m = 0 := by have hm : m < 1 := hm; omega
            subst this; rfl
          · have e : fieldR last (b :: l) = (4, 0, 0, 0) := by simp only [fieldR, if_neg hz, if_neg hk, if_pos hs, if_neg hi]
            rw [e] at h0; exact absurd h0 (by decide)
        · by_cases hv : vcode l = 0
          · by_cases hi : inR (zagV (vnum l)) = true
            · have e : fieldR last (b :: l) = (0, 1 + vlen 10 l, zagV (vnum l), bi b % 16) := by simp only [fieldR, if_neg hz, if_neg hk, if_neg hs, if_pos hv, if_pos hi]
              obtain ⟨b1, b2, b3⟩ := pre_var l hv
              rw [e]
              have b1 : vlen 10 l ≤ l.length := b1
              refine ⟨by show 1 + vlen 10 l ≤ l.length + 1; omega, fun r => ?_, fun m hm => ?_⟩
              · have := b2 r
                simp only [varD, Prod.mk.injEq] at this
                obtain ⟨t1, t2, t3⟩ := this
                rw [show ((b :: l).take (1 + vlen 10 l) ++ r) = b :: (l.take (vlen 10 l) ++ r) by rw [Nat.add_comm, List.take_succ_cons, List.cons_append]]
                simp only [fieldR, if_neg hz, if_neg hk, if_neg hs]
                rw [t1, hv, if_pos rfl, t3, if_pos hi, t2]
              · cases m with
                | zero => rfl
                | succ m =>
                  have hm : m + 1 < 1 + vlen 10 l := hm
                  have hc : vcode (l.take m) = 1 := b3 m (show m < vlen 10 l by omega)
                  rw [List.take_succ_cons]
                  simp only [fieldR, if_neg hz, if_neg hk, if_neg hs]
                  rw [if_neg (by rw [hc]; decide)]
                  exact hc
            · have e : fieldR last (b :: l) = (4, 0, 0, 0) := by simp only [fieldR, if_neg hz, if_neg hk, if_neg hs, if_pos hv, if_neg hi]
              rw [e] at h0; exact absurd h0 (by decide)
          · have e : fieldR last (b :: l) = (vcode l, 0, 0, 0) := by simp only [fieldR, if_neg hz, if_neg hk, if_neg hs, if_neg hv]
            rw [e] at h0; exact absurd h0 hv
theorem pre_list (a : List UInt8) : PreD listR a := by
  intro h0
  cases a with
  | nil => exact absurd (show (1 : Int) = 0 from h0) (by decide)
  | cons b l =>
    by_cases hk : isK (bi b % 16) = false
    · have e : listR (b :: l) = (7, 0, 0, 0) := by simp only [listR, if_pos hk]
      rw [e] at h0; exact absurd h0 (by decide)
    · by_cases hs : bi b / 16 = 15
      · by_cases hv : (sizeR l).1 = 0
        · have e : listR (b :: l) = (0, 1 + (sizeR l).2.1, (sizeR l).2.2, bi b % 16) := by simp only [listR, if_neg hk, if_pos hs, if_pos hv]
          obtain ⟨b1, b2, b3⟩ := pre_size l hv
          rw [e]
          refine ⟨by show 1 + (sizeR l).2.1 ≤ l.length + 1; omega, fun r => ?_, fun m hm => ?_⟩
          · have t := b2 r
            rw [show ((b :: l).take (1 + (sizeR l).2.1) ++ r) = b :: (l.take (sizeR l).2.1 ++ r) by rw [Nat.add_comm, List.take_succ_cons, List.cons_append]]
            simp only [listR, if_neg hk, if_pos hs]
            rw [t, if_pos hv]
          · cases m with
            | zero => rfl
            | succ m =>
              have hm : m + 1 < 1 + (sizeR l).2.1 := hm
              have hc := b3 m (by omega)
              rw [List.take_succ_cons]
              simp only [listR, if_neg hk, if_pos hs]
              rw [if_neg (by rw [hc]; decide)]
              exact hc
        · have e : listR (b :: l) = ((sizeR l).1, 0, 0, 0) := by simp only [listR, if_neg hk, if_pos hs, if_neg hv]
          rw [e] at h0; exact absurd h0 hv
      · have e : ∀ x, listR (b :: x) = (0, 1, bi b / 16, bi b % 16) := fun x => by simp only [listR, if_neg hk, if_neg hs]
        rw [e]
        refine ⟨by simp, fun r => e _, fun m hm => ?_⟩
        have : m = 0 := by have hm : m < 1 := hm; omega
        subst this; rfl
theorem pre_map (a : List UInt8) : PreD mapR a := by
  intro h0
  by_cases hv : (sizeR a).1 = 0
  case neg => rw [mapR, if_neg hv] at h0; exact absurd h0 hv
  obtain ⟨b1, b2, b3⟩ := pre_size a hv
  by_cases hz : (sizeR a).2.2 = 0
  · have e : mapR a = (0, (sizeR a).2.1, 0, 0, 0) := by rw [mapR, if_pos hv, if_pos hz]
    rw [e]
    refine ⟨b1, fun r => ?_, fun m hm => ?_⟩
    · show mapR (a.take (sizeR a).2.1 ++ r) = _
      unfold mapR
      rw [b2 r, if_pos hv, if_pos hz]
    · have hc := b3 m hm
      unfold mapR
      rw [if_neg (by rw [hc]; decide)]
      exact hc
  · have em : ∀ x, (sizeR x) = sizeR a → mapR x = mapR2 (sizeR a).2.1 (sizeR a).2.2 (x.drop (sizeR a).2.1) := fun x hx => by rw [mapR, hx, if_pos hv, if_neg hz]
    have e := em a rfl
    cases hd : a.drop (sizeR a).2.1 with
    | nil => rw [e, hd] at h0; exact absurd (show (1 : Int) = 0 from h0) (by decide)
    | cons b l =>
      by_cases hk : isK (bi b / 16) = true ∧ isK (bi b % 16) = true
      case neg =>
        rw [e, hd] at h0
        simp only [mapR2, if_neg hk] at h0
        exact absurd h0 (by decide)
      have e2 : ∀ x, mapR2 (sizeR a).2.1 (sizeR a).2.2 (b :: x) = (0, (sizeR a).2.1 + 1, (sizeR a).2.2, bi b / 16, bi b % 16) := fun x => by simp only [mapR2, if_pos hk]
      have ea : mapR a = (0, (sizeR a).2.1 + 1, (sizeR a).2.2, bi b / 16, bi b % 16) := by rw [e, hd, e2]
      rw [ea]
      have hlen : (sizeR a).2.1 + 1 ≤ a.length := by
        have := congrArg List.length hd
        rw [List.length_drop, List.length_cons] at this
        omega
      refine ⟨hlen, fun r => ?_, fun m hm => ?_⟩
      · have ht : a.take ((sizeR a).2.1 + 1) ++ r = a.take (sizeR a).2.1 ++ (b :: r) := by
          rw [List.take_add, hd, List.append_assoc]; rfl
        show mapR (a.take ((sizeR a).2.1 + 1) ++ r) = _
        rw [ht, em _ (b2 _), drop_take_app _ _ _ b1, e2]
      · by_cases hm2 : m < (sizeR a).2.1
        · have hc := b3 m hm2
          unfold mapR
          rw [if_neg (by rw [hc]; decide)]
          exact hc
        · have hmm : m = (sizeR a).2.1 := by have hm : m < (sizeR a).2.1 + 1 := hm; omega
          have := b2 []
          rw [List.append_nil] at this
          rw [hmm, em _ this, List.drop_eq_nil_of_le (by rw [List.length_take]; omega)]
          rfl
theorem pre_inner {v : Int → List UInt8 → Int × Nat} (hv : ∀ k a, Pre (v k) a) (k : Int) (a : List UInt8) : Pre (innerR v k) a := by
  by_cases hk : k = 1 ∨ k = 2
  · have e : innerR v k = truthR := funext fun a => by rw [innerR, if_pos hk]
    rw [e]; exact pre_truth a
  · have e : innerR v k = v k := funext fun a => by rw [innerR, if_neg hk]
    rw [e]; exact hv k a
theorem pre_items {f : List UInt8 → Int × Nat} (hf : ∀ a, Pre f a) (n : Nat) : ∀ a, Pre (itemsR f n) a := by
  induction n with
  | zero => exact pre_nil
  | succ n ih => exact fun a => Pre.seq (R := f) (G := itemsR f n) (hf a) (fun _ => ih _)
theorem pre_pair {v : Int → List UInt8 → Int × Nat} (hv : ∀ k a, Pre (v k) a) (k j : Int) (a : List UInt8) : Pre (pairR v k j) a :=
  Pre.seq (R := innerR v k) (G := innerR v j) (pre_inner hv k a) (fun _ => pre_inner hv j _)
theorem pre_lists {v : Int → List UInt8 → Int × Nat} (hv : ∀ k a, Pre (v k) a) (a : List UInt8) : Pre (listsR v) a :=
  Pre.bind (h := listR) (G := fun d => itemsR (innerR v d.2) d.1.toNat) (pre_list a) (fun _ => pre_items (pre_inner hv _) _ _)
theorem pre_maps {v : Int → List UInt8 → Int × Nat} (hv : ∀ k a, Pre (v k) a) (a : List UInt8) : Pre (mapsR v) a :=
  Pre.bind (h := mapR) (G := fun d => itemsR (pairR v d.2.1 d.2.2) d.1.toNat) (pre_map a) (fun _ => pre_items (pre_pair hv _ _) _ _)
def fieldsW (v : Int → List UInt8 → Int × Nat) (last : Int) (a : List UInt8) : Int × Nat := fieldsR v (a.length + 1) last a
theorem fieldsW_eq (v : Int → List UInt8 → Int × Nat) (last : Int) (a : List UInt8) :
    fieldsW v last a = bindD (fieldR last) (fun d => if d.2 = 0 then (fun _ => (0, 0)) else fun b => seqR (v d.2 b) (fieldsW v d.1) b) a := by
  unfold fieldsW
  rw [fieldsR]
  by_cases h0 : (fieldR last a).1 = 0
  · rw [if_pos h0]
    unfold bindD
    rw [if_pos h0]
    by_cases hk : (fieldR last a).2.2.2 = 0
    · simp only [if_pos hk, Nat.add_zero]
    · simp only [if_neg hk]
      obtain ⟨p1, p2⟩ := fieldR_pos last a h0
      simp only [seqR, if_true]
      rw [fields_fuels v _ _ a.length (by simp only [List.length_drop]; omega)]
  · rw [if_neg h0]
    unfold bindD
    rw [if_neg h0]
theorem pre_fields {v : Int → List UInt8 → Int × Nat} (hv : ∀ k a, Pre (v k) a) (N : Nat) : ∀ (last : Int) (a : List UInt8), a.length ≤ N → Pre (fieldsW v last) a := by
  induction N with
  | zero =>
    intro last a ha
    have : a = [] := List.eq_nil_of_length_eq_zero (by omega)
    subst this
    intro h0
    exact absurd (show (1 : Int) = 0 from h0) (by decide)
  | succ N ih =>
    intro last a ha
    have e : fieldsW v last = bindD (fieldR last) (fun d => if d.2 = 0 then (fun _ => (0, 0)) else fun b => seqR (v d.2 b) (fieldsW v d.1) b) := funext (fieldsW_eq v last)
    rw [e]
    refine Pre.bind (pre_field last a) (fun h0 => ?_)
    obtain ⟨p1, p2⟩ := fieldR_pos last a h0
    by_cases hk : (fieldR last a).2.2.2 = 0
    · simp only [if_pos hk]; exact pre_nil _
    · simp only [if_neg hk]
      refine Pre.seq (hv _ _) (fun _ => ih _ _ ?_)
      simp only [List.length_drop]; omega
theorem pre_struct {v : Int → List UInt8 → Int × Nat} (hv : ∀ k a, Pre (v k) a) (a : List UInt8) : Pre (structR v) a := pre_fields hv a.length 0 a (Nat.le_refl _)
theorem pre_held {v : Int → List UInt8 → Int × Nat} (hv : ∀ k a, Pre (v k) a) (k : Int) (a : List UInt8) : Pre (heldR v k) a := by
  by_cases h12 : k = 12
  · have e : heldR v k = structR v := funext fun a => by rw [heldR, if_pos h12]
    rw [e]; exact pre_struct hv a
  · by_cases h11 : k = 11
    · have e : heldR v k = mapsR v := funext fun a => by rw [heldR, if_neg h12, if_pos h11]
      rw [e]; exact pre_maps hv a
    · have e : heldR v k = listsR v := funext fun a => by rw [heldR, if_neg h12, if_neg h11]
      rw [e]; exact pre_lists hv a
theorem pre_flat {h : Int → List UInt8 → Int × Nat} (hh : ∀ k a, Pre (h k) a) (k : Int) (a : List UInt8) : Pre (flatR h k) a := by
  by_cases q1 : k = 1 ∨ k = 2
  · have e : flatR h k = fun _ => (0, 0) := funext fun a => by rw [flatR, if_pos q1]
    rw [e]; exact pre_nil a
  by_cases q3 : k = 3
  · have e : flatR h k = takeR 1 := funext fun a => by rw [flatR, if_neg q1, if_pos q3]
    rw [e]; exact pre_take 1 a
  by_cases q4 : 4 ≤ k ∧ k ≤ 6
  · have e : flatR h k = varR := funext fun a => by rw [flatR, if_neg q1, if_neg q3, if_pos q4]
    rw [e]; exact pre_varR a
  by_cases q7 : k = 7
  · have e : flatR h k = takeR 8 := funext fun a => by rw [flatR, if_neg q1, if_neg q3, if_neg q4, if_pos q7]
    rw [e]; exact pre_take 8 a
  by_cases q8 : k = 8
  · have e : flatR h k = textR := funext fun a => by rw [flatR, if_neg q1, if_neg q3, if_neg q4, if_neg q7, if_pos q8]
    rw [e]; exact pre_text a
  by_cases q9 : 9 ≤ k ∧ k ≤ 12
  · have e : flatR h k = h k := funext fun a => by rw [flatR, if_neg q1, if_neg q3, if_neg q4, if_neg q7, if_neg q8, if_pos q9]
    rw [e]; exact hh k a
  · have e : flatR h k = fun _ => (7, 0) := funext fun a => by rw [flatR, if_neg q1, if_neg q3, if_neg q4, if_neg q7, if_neg q8, if_neg q9]
    rw [e]; exact pre_fail 7 (by decide) a
theorem pre_skip (n : Nat) : ∀ k a, Pre (skipV n k) a := by
  induction n with
  | zero => exact fun k a => pre_flat (fun _ a => pre_fail 33 (by decide) a) k a
  | succ n ih => exact fun k a => pre_flat (fun k a => pre_held ih k a) k a
/-- Lists within one another. -/
def nest (m : Nat) (r : List UInt8) : List UInt8 := List.replicate m 25 ++ (19 :: 7 :: r)
theorem list25 (t : List UInt8) : listR (25 :: t) = (0, 1, 1, 9) := by
  have h : isK (bi 25 % 16) = true ∧ bi 25 / 16 = 1 ∧ bi 25 % 16 = 9 := by decide
  simp only [listR]
  rw [if_neg (by rw [h.1]; decide), if_neg (by rw [h.2.1]; decide), h.2.1, h.2.2]
theorem list19 (t : List UInt8) : listR (19 :: t) = (0, 1, 1, 3) := by
  have h : isK (bi 19 % 16) = true ∧ bi 19 / 16 = 1 ∧ bi 19 % 16 = 3 := by decide
  simp only [listR]
  rw [if_neg (by rw [h.1]; decide), if_neg (by rw [h.2.1]; decide), h.2.1, h.2.2]
theorem skip9 (n : Nat) (a : List UInt8) : skipV (n + 1) 9 a = listsR (skipV n) a := rfl
theorem skip3 (n : Nat) (a : List UInt8) : skipV n 3 a = takeR 1 a := by cases n <;> rfl
theorem nest_ok (m : Nat) : ∀ (L : Nat) (r : List UInt8), m < L → skipV L 9 (nest m r) = (0, m + 2) := by
  induction m with
  | zero =>
    intro L r h
    obtain ⟨n, rfl⟩ : ∃ n, L = n + 1 := ⟨L - 1, by omega⟩
    show skipV (n + 1) 9 (19 :: 7 :: r) = _
    rw [skip9, listsR, list19]
    show seqR (0, 1) (itemsR (innerR (skipV n) 3) 1) (19 :: 7 :: r) = _
    have hi : innerR (skipV n) 3 = skipV n 3 := funext fun a => by rw [innerR, if_neg (by decide)]
    rw [hi]
    have ht : takeR 1 (7 :: r) = (0, 1) := by rw [takeR, if_neg (by rw [List.length_cons]; omega)]
    simp only [seqR, itemsR, if_true, List.drop_succ_cons, List.drop_zero, skip3, ht]
  | succ m ih =>
    intro L r h
    obtain ⟨n, rfl⟩ : ∃ n, L = n + 1 := ⟨L - 1, by omega⟩
    have e : nest (m + 1) r = 25 :: nest m r := rfl
    rw [e, skip9, listsR, list25]
    show seqR (0, 1) (itemsR (innerR (skipV n) 9) 1) (25 :: nest m r) = _
    have hi : innerR (skipV n) 9 = skipV n 9 := funext fun a => by rw [innerR, if_neg (by decide)]
    rw [hi]
    simp only [seqR, itemsR, if_true, List.drop_succ_cons, List.drop_zero, ih n r (by omega)]
    exact Prod.ext rfl (by show 1 + (m + 2 + 0) = m + 1 + 2; omega)
theorem nest_bad (m : Nat) : ∀ (L : Nat) (r : List UInt8), L ≤ m → (skipV L 9 (nest m r)).1 = 33 := by
  induction m with
  | zero =>
    intro L r h
    have : L = 0 := by omega
    subst this
    rfl
  | succ m ih =>
    intro L r h
    cases L with
    | zero => rfl
    | succ n =>
      have e : nest (m + 1) r = 25 :: nest m r := rfl
      rw [e, skip9, listsR, list25]
      show (seqR (0, 1) (itemsR (innerR (skipV n) 9) 1) (25 :: nest m r)).1 = _
      have hi : innerR (skipV n) 9 = skipV n 9 := funext fun a => by rw [innerR, if_neg (by decide)]
      rw [hi]
      have hx := ih n r (by omega)
      simp only [seqR, itemsR, if_true, List.drop_succ_cons, List.drop_zero]
      rw [if_neg (by rw [hx]; decide)]
      exact hx
end Go.Proofs.Ytdjbgojdkaipfaa
