/-
  Numbers in groups of seven bits, as plain functions.
-/
import Derived.Test.YtdjbgojdkaipfaaPLay
import Derived.Lib.BitFns
namespace Go.Proofs.Ytdjbgojdkaipfaa
open Go.RowKit

def varB : Nat → Int → List UInt8
  | 0, u => [bt u]
  | f + 1, u => if u < 128 then [bt u] else bt (u % 128 + 128) :: varB f (u / 128)
theorem varB_pos (f : Nat) (u : Int) : 1 ≤ (varB f u).length := by
  cases f <;> simp [varB]
  split <;> simp
theorem varB_size (f : Nat) : ∀ (u : Int), 0 ≤ u → u < 128 ^ (f + 1) → u < 18446744073709551616 → ((varB f u).length : Int) = (max (Lib.bitLen u.toNat : Int) 1 + 6) / 7 := by
  induction f with
  | zero =>
    intro u h0 h hx
    have hl := Lib.bitLen_le u.toNat 7 (by omega) (by simp at h; omega)
    simp [varB]
    omega
  | succ f ih =>
    intro u h0 h hx
    simp only [varB]
    by_cases hu : u < 128
    · have hl := Lib.bitLen_le u.toNat 7 (by omega) (by omega)
      rw [if_pos hu]
      simp
      omega
    · rw [if_neg hu]
      have hs := Lib.bitLen_shift 7 u.toNat (by omega) (by omega)
      have hd := Lib.bitLen_half (u.toNat / 2 ^ 7) (by omega) (by omega)
      have ei : (u / 128).toNat = u.toNat / 2 ^ 7 := by omega
      have := ih (u / 128) (by omega) (by rw [Int.pow_succ] at h; omega) (by omega)
      rw [ei] at this
      rw [List.length_cons]
      push_cast
      rw [this]
      omega
theorem varB_len_le (f : Nat) : ∀ (n : Nat) (u : Int), 1 ≤ n → n ≤ f + 1 → u < 128 ^ n → (varB f u).length ≤ n := by
  induction f with
  | zero => intro n u h1 h2 h; simp [varB]; omega
  | succ f ih =>
    intro n u h1 h2 h
    simp only [varB]
    by_cases hu : u < 128
    · rw [if_pos hu]; simpa using h1
    · rw [if_neg hu]
      obtain ⟨m, rfl⟩ : ∃ m, n = m + 1 := ⟨n - 1, by omega⟩
      rw [Int.pow_succ] at h
      have hm : 1 ≤ m := by
        cases m with
        | zero => simp at h; omega
        | succ m => omega
      have := ih m (u / 128) hm (by omega) (by omega)
      simp; omega

def vlen : Nat → List UInt8 → Nat
  | 0, _ => 0
  | _ + 1, [] => 0
  | f + 1, b :: l => if bi b < 128 then 1 else if vlen f l = 0 then 0 else vlen f l + 1
def vval : Nat → List UInt8 → Int
  | 0, _ => 0
  | _ + 1, [] => 0
  | n + 1, b :: l => bi b % 128 + 128 * vval n l
theorem byteAt_cons (b : UInt8) (l : List UInt8) (k : Nat) : byteAt (b :: l) (k + 1) = byteAt l k := by simp [byteAt, List.getD]
theorem byteAt_zero (b : UInt8) (l : List UInt8) : byteAt (b :: l) 0 = bi b := rfl
theorem vval_bd : ∀ (n : Nat) (l : List UInt8), 0 ≤ vval n l ∧ vval n l < 128 ^ n
  | 0, _ => by simp [vval]
  | n + 1, [] => by simp only [vval]; exact ⟨by omega, Int.pow_pos (by omega)⟩
  | n + 1, b :: l => by
    obtain ⟨h0, h1⟩ := vval_bd n l
    obtain ⟨g0, g1⟩ := bi_lt b
    rw [Int.pow_succ]
    simp only [vval]
    omega
theorem vval_cap (m : Nat) : ∀ (n : Nat) (l : List UInt8), n ≤ m → vval n l < 128 ^ m := by
  induction m with
  | zero => intro n l h; have : n = 0 := by omega
            subst this; simp [vval]
  | succ m ih =>
    intro n l h
    cases n with
    | zero => simp only [vval]; exact Int.pow_pos (by omega)
    | succ n => cases l with
      | nil => simp only [vval]; exact Int.pow_pos (by omega)
      | cons b l =>
        have := ih n l (by omega)
        obtain ⟨g0, g1⟩ := bi_lt b
        rw [Int.pow_succ]
        simp only [vval]
        omega
theorem vval_snoc : ∀ (k : Nat) (l : List UInt8), k < l.length → vval (k + 1) l = vval k l + byteAt l k % 128 * 128 ^ k
  | 0, b :: l, _ => by simp [vval, byteAt_zero]
  | k + 1, b :: l, h => by
    have := vval_snoc k l (by simpa using h)
    rw [byteAt_cons, Int.pow_succ, ← Int.mul_assoc]
    rw [show vval (k + 1 + 1) (b :: l) = bi b % 128 + 128 * vval (k + 1) l from rfl, show vval (k + 1) (b :: l) = bi b % 128 + 128 * vval k l from rfl, this]
    generalize byteAt l k % 128 * 128 ^ k = x
    omega
theorem vlen_found (f : Nat) : ∀ (i : Nat) (l : List UInt8), (∀ k, k < i → 128 ≤ byteAt l k) → i < l.length → byteAt l i < 128 → i < f → vlen f l = i + 1 := by
  induction f with
  | zero => intro i l _ _ _ h; omega
  | succ f ih =>
    intro i l ha hl h hf
    cases l with
    | nil => simp at hl
    | cons b l =>
      cases i with
      | zero =>
        rw [byteAt_zero] at h
        simp [vlen, h]
      | succ i =>
        have h0 := ha 0 (by omega)
        rw [byteAt_zero] at h0
        rw [byteAt_cons] at h
        have := ih i l (fun k hk => by have := ha (k + 1) (by omega); rwa [byteAt_cons] at this) (by simpa using hl) h (by omega)
        simp only [vlen]
        rw [if_neg (by omega), this, if_neg (by omega)]
theorem vlen_none (f : Nat) : ∀ (i : Nat) (l : List UInt8), (∀ k, k < i → 128 ≤ byteAt l k) → i ≤ l.length → i ≤ f → (i = f ∨ i = l.length) → vlen f l = 0 := by
  induction f with
  | zero => intro i l _ _ _ _; rfl
  | succ f ih =>
    intro i l ha hl hf h
    cases l with
    | nil => rfl
    | cons b l =>
      cases i with
      | zero => simp at h
      | succ i =>
        have h0 := ha 0 (by omega)
        rw [byteAt_zero] at h0
        have := ih i l (fun k hk => by have := ha (k + 1) (by omega); rwa [byteAt_cons] at this) (by simpa using hl) (by omega) (by simp at h; omega)
        simp only [vlen]
        rw [if_neg (by omega), this, if_pos rfl]
theorem vlen_le : ∀ (f : Nat) (l : List UInt8), vlen f l ≤ l.length ∧ vlen f l ≤ f
  | 0, _ => by simp [vlen]
  | f + 1, [] => by simp [vlen]
  | f + 1, b :: l => by
    obtain ⟨h0, h1⟩ := vlen_le f l
    simp only [vlen, List.length_cons]
    split
    · omega
    · split <;> omega
/-- The bytes before a number's last one are not below 128, and its last one is. -/
theorem vlen_last (f : Nat) : ∀ (l : List UInt8), vlen f l ≠ 0 → byteAt l (vlen f l - 1) < 128 := by
  induction f with
  | zero => intro l h; simp [vlen] at h
  | succ f ih =>
    intro l h
    cases l with
    | nil => simp [vlen] at h
    | cons b l =>
      simp only [vlen] at h ⊢
      by_cases hb : bi b < 128
      · rw [if_pos hb]; rwa [show 1 - 1 = 0 from rfl, byteAt_zero]
      · rw [if_neg hb] at h ⊢
        by_cases hv : vlen f l = 0
        · rw [if_pos hv] at h; exact absurd rfl h
        · rw [if_neg hv]
          have := ih l hv
          obtain ⟨m, e⟩ : ∃ m, vlen f l = m + 1 := ⟨vlen f l - 1, by omega⟩
          rw [e] at this ⊢
          rwa [Nat.add_sub_cancel, byteAt_cons]
/-- What is said of the bytes that follow: 0, 1 or 4. -/
def vcode (l : List UInt8) : Int :=
  if 10 ≤ l.length ∧ (vlen 10 l = 0 ∨ vlen 10 l = 10) ∧ 1 < byteAt l 9 then 4 else if vlen 10 l = 0 then 1 else 0
def vnum (l : List UInt8) : Int := if vcode l = 0 then vval (vlen 10 l) l else 0
theorem vnum_bd (l : List UInt8) : 0 ≤ vnum l ∧ vnum l ≤ 18446744073709551615 := by
  unfold vnum
  split
  · rename_i h
    obtain ⟨b0, b1⟩ := vval_bd (vlen 10 l) l
    refine ⟨b0, ?_⟩
    unfold vcode at h
    obtain ⟨l1, l2⟩ := vlen_le 10 l
    by_cases h10 : vlen 10 l = 10
    · rw [h10] at l1
      have hb : ¬ 1 < byteAt l 9 := by
        intro hb
        rw [if_pos ⟨l1, .inr h10, hb⟩] at h
        simp at h
      have := byteAt_lo l 9
      have e := vval_snoc 9 l (by omega)
      obtain ⟨c0, c1⟩ := vval_bd 9 l
      rw [h10, e]
      omega
    · have := vval_cap 9 (vlen 10 l) l (by omega)
      omega
  · omega
theorem vnum_lt (l : List UInt8) (h : vcode l = 0) : vnum l < 128 ^ vlen 10 l := by
  rw [vnum, if_pos h]; exact (vval_bd _ _).2
theorem varB_dec (f : Nat) : ∀ (u : Int) (r : List UInt8), 0 ≤ u → u < 128 ^ (f + 1) → vlen (f + 1) (varB f u ++ r) = (varB f u).length ∧ vval (varB f u).length (varB f u ++ r) = u := by
  induction f with
  | zero =>
    intro u r h0 h
    have hb : bi (bt u) = u := bi_bt u h0 (by simp at h; omega)
    simp at h
    simp [varB, vlen, vval, hb]
    omega
  | succ f ih =>
    intro u r h0 h
    by_cases hu : u < 128
    · have hb : bi (bt u) = u := bi_bt u h0 (by omega)
      simp [varB, vlen, vval, hb, hu]
      omega
    · have hb : bi (bt (u % 128 + 128)) = u % 128 + 128 := bi_bt _ (by omega) (by omega)
      obtain ⟨h1, h2⟩ := ih (u / 128) r (by omega) (by rw [Int.pow_succ] at h; omega)
      have hp := varB_pos f (u / 128)
      rw [show varB (f + 1) u = bt (u % 128 + 128) :: varB f (u / 128) by simp [varB, hu]]
      rw [List.cons_append, List.length_cons]
      rw [show vlen (f + 1 + 1) (bt (u % 128 + 128) :: (varB f (u / 128) ++ r)) = if bi (bt (u % 128 + 128)) < 128 then 1 else if vlen (f + 1) (varB f (u / 128) ++ r) = 0 then 0 else vlen (f + 1) (varB f (u / 128) ++ r) + 1 from rfl]
      rw [hb, if_neg (by omega), h1, if_neg (by omega)]
      refine ⟨rfl, ?_⟩
      simp only [vval]
      rw [hb, h2]
      omega
theorem varB_read (u : Int) (r : List UInt8) (h0 : 0 ≤ u) (h : u ≤ 18446744073709551615) : vlen 10 (varB 9 u ++ r) = (varB 9 u).length ∧ vcode (varB 9 u ++ r) = 0 ∧ vnum (varB 9 u ++ r) = u := by
  obtain ⟨h1, h2⟩ := varB_dec 9 u r h0 (by omega)
  have hp := varB_pos 9 u
  have hc : vcode (varB 9 u ++ r) = 0 := by
    unfold vcode
    have hne : vlen 10 (varB 9 u ++ r) ≠ 0 := by intro h; rw [h] at h1; omega
    rw [if_neg, if_neg hne]
    rintro ⟨a, b, c⟩
    have e : vlen 10 (varB 9 u ++ r) = 10 := b.resolve_left hne
    have hl := vlen_last 10 (varB 9 u ++ r) hne
    rw [e] at hl
    rw [← h1, e, vval_snoc 9 _ (by omega)] at h2
    obtain ⟨c0, c1⟩ := vval_bd 9 (varB 9 u ++ r)
    simp at hl
    omega
  refine ⟨h1, hc, ?_⟩
  rw [vnum, if_pos hc, h1, h2]
theorem vlen_uniq (f : Nat) : ∀ (a b : List UInt8), vlen f a = a.length → vlen f b = b.length → a.length = b.length → vval a.length a = vval b.length b → a = b := by
  induction f with
  | zero =>
    intro a b ha hb _ _
    rw [List.length_eq_zero_iff.1 ha.symm, List.length_eq_zero_iff.1 hb.symm]
  | succ f ih =>
    intro a b ha hb hl hv
    cases a with
    | nil => cases b with
      | nil => rfl
      | cons y b => simp at hl
    | cons x a => cases b with
      | nil => simp at hl
      | cons y b =>
        simp only [List.length_cons] at ha hb hl hv
        simp only [vlen] at ha hb
        simp only [vval] at hv
        have hx := bi_lt x
        have hy := bi_lt y
        have hlt : a.length = b.length := by omega
        have hxy : bi x % 128 = bi y % 128 := by omega
        have hvt : vval a.length a = vval b.length b := by omega
        by_cases h1 : bi x < 128
        · rw [if_pos h1] at ha
          have la : a = [] := List.length_eq_zero_iff.1 (by omega)
          have lb : b = [] := List.length_eq_zero_iff.1 (by omega)
          subst la lb
          have h2 : bi y < 128 := by
            apply Decidable.byContradiction
            intro h2
            rw [if_neg h2] at hb
            cases f <;> simp [vlen] at hb
          rw [bi_inj (a := x) (b := y) (by omega)]
        · rw [if_neg h1] at ha
          have na : vlen f a ≠ 0 := by intro h; rw [if_pos h] at ha; omega
          rw [if_neg na] at ha
          have h2 : ¬ bi y < 128 := by
            intro h2
            rw [if_pos h2] at hb
            omega
          rw [if_neg h2] at hb
          have nb : vlen f b ≠ 0 := by intro h; rw [if_pos h] at hb; omega
          rw [if_neg nb] at hb
          rw [bi_inj (a := x) (b := y) (by omega), ih a b (by omega) (by omega) (by omega) hvt]
/-- A text that is one number, whole. -/
def vwhole (l : List UInt8) : Prop := vcode l = 0 ∧ vlen 10 l = l.length
theorem short_iff (l : List UInt8) (h : vwhole l) : (varB 9 (vnum l)).length = l.length ↔ varB 9 (vnum l) = l := by
  constructor
  · intro hl
    obtain ⟨b0, b1⟩ := vnum_bd l
    obtain ⟨h1, h2, h3⟩ := varB_read (vnum l) [] b0 b1
    rw [List.append_nil] at h1 h2 h3
    refine vlen_uniq 10 _ _ h1 h.2 hl ?_
    rw [vnum, if_pos h2, h1] at h3
    rw [h3, vnum, if_pos h.1, h.2]
  · intro e; rw [e]
theorem short_least (l : List UInt8) (h : vwhole l) : (varB 9 (vnum l)).length ≤ l.length := by
  have h1 := vnum_lt l h.1
  rw [h.2] at h1
  have h2 := (vlen_le 10 l).2
  rw [h.2] at h2
  refine varB_len_le 9 l.length _ ?_ h2 h1
  have hc := h.1
  unfold vcode at hc
  rw [h.2] at hc
  by_cases h0 : l.length = 0
  · rw [h0] at hc; simp at hc
  · omega
end Go.Proofs.Ytdjbgojdkaipfaa
