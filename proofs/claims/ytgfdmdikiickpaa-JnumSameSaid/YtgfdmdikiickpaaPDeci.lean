/-
  Digits to the base 10, as plain functions on lists of bytes.
-/
import Derived.Test.YtgfdmdikiickpaaPHexa
namespace Go.Proofs.Ytgfdmdikiickpaa

def decB : Nat → Int → List UInt8
  | 0, u => [bt (48 + u % 10)]
  | f + 1, u => if u < 10 then [bt (48 + u % 10)] else decB f (u / 10) ++ [bt (48 + u % 10)]
def decG (a : Int) (l : List UInt8) : Int := l.foldl (fun a b => 10 * a + (bi b - 48)) a
def decN (l : List UInt8) : Int := decG 0 l
def Digs (l : List UInt8) : Prop := ∀ j, j < l.length → 48 ≤ byteAt l j ∧ byteAt l j ≤ 57
instance (l : List UInt8) : Decidable (Digs l) := by unfold Digs; infer_instance
def decOk (l : List UInt8) : Bool := decide (Digs l ∧ l ≠ [] ∧ (byteAt l 0 = 48 → l.length = 1))
theorem decOk_iff (l : List UInt8) : decOk l = true ↔ Digs l ∧ l ≠ [] ∧ (byteAt l 0 = 48 → l.length = 1) := by unfold decOk; exact decide_eq_true_iff

theorem decN_nil : decN [] = 0 := rfl
theorem decN_snoc (l : List UInt8) (b : UInt8) : decN (l ++ [b]) = 10 * decN l + (bi b - 48) := by
  unfold decN decG; rw [List.foldl_append]; rfl
theorem decN_take (l : List UInt8) (k : Nat) (h : k < l.length) : decN (l.take (k + 1)) = 10 * decN (l.take k) + (byteAt l k - 48) := by
  rw [List.take_succ_eq_append_getElem h, decN_snoc, byteAt_getElem l k h]
theorem decG_acc (l : List UInt8) : ∀ a : Int, decG a l = a * 10 ^ l.length + decN l := by
  induction l with
  | nil => intro a; simp [decG, decN]
  | cons b r ih =>
    intro a
    have h1 := ih (10 * a + (bi b - 48))
    have h2 := ih (10 * 0 + (bi b - 48))
    show decG (10 * a + (bi b - 48)) r = _
    have e : decN (b :: r) = decG (10 * 0 + (bi b - 48)) r := rfl
    rw [e, h1, h2, List.length_cons, Int.pow_succ]
    generalize (10 : Int) ^ r.length = q
    generalize bi b - 48 = d
    rw [Int.add_mul, Int.add_mul, Int.mul_comm 10 a, Int.mul_assoc a 10 q, Int.mul_comm q 10]
    omega
theorem decN_cons (b : UInt8) (r : List UInt8) : decN (b :: r) = (bi b - 48) * 10 ^ r.length + decN r := by
  have := decG_acc r (10 * 0 + (bi b - 48))
  have e : decN (b :: r) = decG (10 * 0 + (bi b - 48)) r := rfl
  rw [e, this]; congr 2; omega
theorem byteAt_cons' (b : UInt8) (l : List UInt8) (k : Nat) : byteAt (b :: l) (k + 1) = byteAt l k := by simp [byteAt, List.getD]
theorem byteAt_zero' (b : UInt8) (l : List UInt8) : byteAt (b :: l) 0 = bi b := rfl
theorem Digs.cons {b : UInt8} {r : List UInt8} (h : Digs (b :: r)) : 48 ≤ bi b ∧ bi b ≤ 57 ∧ Digs r := by
  have h0 := h 0 (by simp)
  rw [byteAt_zero'] at h0
  refine ⟨h0.1, h0.2, fun j hj => ?_⟩
  have := h (j + 1) (by simp; omega)
  rwa [byteAt_cons'] at this
theorem Digs.nil : Digs [] := by intro j hj; simp at hj
theorem Digs.take {l : List UInt8} (h : Digs l) (k : Nat) : Digs (l.take k) := by
  intro j hj
  rw [List.length_take] at hj
  rw [byteAt_take _ _ _ (by omega)]
  exact h j (by omega)
theorem Digs.snoc {l : List UInt8} {b : UInt8} (h : Digs (l ++ [b])) : Digs l ∧ 48 ≤ bi b ∧ bi b ≤ 57 := by
  have e : l = (l ++ [b]).take l.length := by simp
  refine ⟨by rw [e]; exact h.take _, ?_⟩
  have := h l.length (by simp)
  rw [byteAt_getElem _ _ (by simp)] at this
  simpa using this
theorem Digs.mk_snoc {l : List UInt8} {b : UInt8} (h : Digs l) (h1 : 48 ≤ bi b ∧ bi b ≤ 57) : Digs (l ++ [b]) := by
  intro j hj
  rw [List.length_append] at hj
  by_cases hl : j < l.length
  · rw [byteAt_app_left _ _ _ hl]; exact h j hl
  · have : j = l.length := by simp at hj; omega
    subst this
    rw [byteAt_app_right _ _ _ (Nat.le_refl _), Nat.sub_self, byteAt_zero']
    exact h1
theorem decN_bd : ∀ l : List UInt8, Digs l → 0 ≤ decN l ∧ decN l < 10 ^ l.length
  | [], _ => by simp [decN_nil]
  | b :: r, h => by
    obtain ⟨h0, h1, h2⟩ := h.cons
    obtain ⟨g0, g1⟩ := decN_bd r h2
    rw [decN_cons, List.length_cons, Int.pow_succ]
    generalize (10 : Int) ^ r.length = q at g1 ⊢
    have hq : 0 ≤ q := by omega
    have m0 : 0 ≤ (bi b - 48) * q := Int.mul_nonneg (by omega) hq
    have m1 : (bi b - 48) * q ≤ 9 * q := Int.mul_le_mul_of_nonneg_right (by omega) hq
    omega
theorem decN_lo : ∀ l : List UInt8, Digs l → l ≠ [] → byteAt l 0 ≠ 48 → 10 ^ (l.length - 1) ≤ decN l
  | [], _, h, _ => absurd rfl h
  | b :: r, h, _, hb => by
    obtain ⟨h0, h1, h2⟩ := h.cons
    obtain ⟨g0, g1⟩ := decN_bd r h2
    rw [byteAt_zero'] at hb
    rw [decN_cons, List.length_cons, Nat.add_sub_cancel]
    generalize (10 : Int) ^ r.length = q at g1 ⊢
    have hq : 0 ≤ q := by omega
    have m1 : 1 * q ≤ (bi b - 48) * q := Int.mul_le_mul_of_nonneg_right (by omega) hq
    omega
theorem dig_bt (u : Int) : bi (bt (48 + u % 10)) = 48 + u % 10 := bi_bt _ (by omega) (by omega)
theorem byteAt_one (b : UInt8) : byteAt [b] 0 = bi b := rfl
theorem decB_pos (f : Nat) (u : Int) : decB f u ≠ [] := by
  cases f <;> simp [decB]
  split <;> simp
theorem decB_ok : ∀ (f : Nat) (u : Int), 0 ≤ u → u < 10 ^ (f + 1) → Digs (decB f u) ∧ decN (decB f u) = u ∧ (decB f u).length ≤ f + 1 ∧ (byteAt (decB f u) 0 = 48 → u = 0)
  | 0, u, h0, h1 => by
    have hb := dig_bt u
    have hu : u < 10 := by simpa using h1
    simp only [decB]
    refine ⟨Digs.mk_snoc (l := []) Digs.nil (by omega), ?_, by simp, fun h => ?_⟩
    · rw [decN_cons, decN_nil]; simp; omega
    · rw [byteAt_one] at h; omega
  | f + 1, u, h0, h1 => by
    have hb := dig_bt u
    simp only [decB]
    by_cases hu : u < 10
    · rw [if_pos hu]
      refine ⟨Digs.mk_snoc (l := []) Digs.nil (by omega), ?_, by simp, fun h => ?_⟩
      · rw [decN_cons, decN_nil]; simp; omega
      · rw [byteAt_one] at h; omega
    · rw [if_neg hu]
      obtain ⟨a1, a2, a3, a4⟩ := decB_ok f (u / 10) (by omega) (by rw [Int.pow_succ] at h1; omega)
      refine ⟨a1.mk_snoc (by omega), by rw [decN_snoc, a2]; omega, by simp; omega, fun h => ?_⟩
      have hp : 0 < (decB f (u / 10)).length := List.length_pos_iff.2 (decB_pos _ _)
      rw [byteAt_app_left _ _ _ hp] at h
      have := a4 h
      omega
theorem decB_small (f : Nat) (u : Int) (h : u < 10) : decB f u = [bt (48 + u % 10)] := by
  cases f <;> simp [decB, h]
theorem decB_decOk (f : Nat) (u : Int) (h0 : 0 ≤ u) (h1 : u < 10 ^ (f + 1)) : decOk (decB f u) = true := by
  obtain ⟨a1, a2, a3, a4⟩ := decB_ok f u h0 h1
  refine (decOk_iff _).2 ⟨a1, decB_pos _ _, fun h => ?_⟩
  rw [decB_small f u (by have := a4 h; omega)]; rfl
theorem decB_decN : ∀ (f : Nat) (l : List UInt8), decOk l = true → decN l < 10 ^ (f + 1) → decB f (decN l) = l := by
  intro f
  induction f with
  | zero =>
    intro l h hlt
    obtain ⟨h1, h2, h3⟩ := (decOk_iff l).1 h
    match l, h2 with
    | b :: r, _ =>
      have hr : r = [] := by
        cases r with
        | nil => rfl
        | cons c q =>
          have hne : byteAt (b :: c :: q) 0 ≠ 48 := fun e => by have := h3 e; simp at this
          have := decN_lo _ h1 (by simp) hne
          have hp : (10 : Int) ^ 1 ≤ 10 ^ ((b :: c :: q).length - 1) := by
            have : (10 : Nat) ^ 1 ≤ 10 ^ ((b :: c :: q).length - 1) := Nat.pow_le_pow_right (by omega) (by simp)
            exact_mod_cast this
          simp only [Nat.zero_add] at hlt
          omega
      subst hr
      obtain ⟨d0, d1, _⟩ := h1.cons
      have e : decN [b] = bi b - 48 := by rw [decN_cons, decN_nil]; simp
      rw [e]
      simp only [decB]
      rw [show 48 + (bi b - 48) % 10 = bi b by omega, bt_bi]
  | succ f ih =>
    intro l h hlt
    obtain ⟨h1, h2, h3⟩ := (decOk_iff l).1 h
    obtain ⟨p, b, rfl⟩ : ∃ p b, l = p ++ [b] := ⟨l.dropLast, l.getLast h2, (List.dropLast_concat_getLast h2).symm⟩
    obtain ⟨hp, d0, d1⟩ := h1.snoc
    have e := decN_snoc p b
    cases p with
    | nil =>
      simp only [List.nil_append] at *
      have e : decN [b] = bi b - 48 := by rw [decN_cons, decN_nil]; simp
      rw [e, decB_small _ _ (by omega), show 48 + (bi b - 48) % 10 = bi b by omega, bt_bi]
    | cons c q =>
      have hne : byteAt ((c :: q) ++ [b]) 0 ≠ 48 := fun e => by have := h3 e; simp at this
      have hne' : byteAt (c :: q) 0 ≠ 48 := by rw [byteAt_app_left _ _ _ (by simp)] at hne; exact hne
      have hlo := decN_lo _ hp (by simp) hne'
      have hpw : (0 : Int) < 10 ^ ((c :: q).length - 1) := Int.pow_pos (by omega)
      have hok : decOk (c :: q) = true := (decOk_iff _).2 ⟨hp, by simp, fun e => absurd e hne'⟩
      generalize hP : c :: q = P at *
      rw [e] at hlt ⊢
      have hih := ih P hok (by rw [Int.pow_succ] at hlt; omega)
      simp only [decB]
      rw [if_neg (by omega), show (10 * decN P + (bi b - 48)) / 10 = decN P by omega, show 48 + (10 * decN P + (bi b - 48)) % 10 = bi b by omega, hih, bt_bi]

/-- One digit more at the head of what was laid. -/
theorem decB_step (f : Nat) (u : Int) (tl : List UInt8) (h : ¬ u < 10) : decB (f + 1) u ++ tl = decB f (u / 10) ++ (bt (48 + u % 10) :: tl) := by
  simp only [decB]; rw [if_neg h, List.append_assoc]; rfl

theorem less_step' (a b : UInt8) (x y : List UInt8) : Op.bytesLess (a :: x) (b :: y) = (decide (bi a < bi b) || (decide (bi a = bi b) && Op.bytesLess x y)) := by
  have h1 : (a < b) ↔ bi a < bi b := by rw [UInt8.lt_iff_toNat_lt]; unfold bi; omega
  have h2 : (a == b) = decide (bi a = bi b) := by
    rw [Bool.eq_iff_iff]; simp
    exact ⟨fun h => by rw [h], bi_inj⟩
  simp [Op.bytesLess, h1, h2]
theorem less_dec : ∀ a b : List UInt8, Digs a → Digs b → a.length = b.length → Op.bytesLess a b = decide (decN a < decN b)
  | [], [], _, _, _ => by simp [Op.bytesLess]
  | [], b :: r, _, _, h => by simp at h
  | a :: r, [], _, _, h => by simp at h
  | a :: r, b :: q, ha, hb, h => by
    obtain ⟨a0, a1, a2⟩ := ha.cons
    obtain ⟨b0, b1, b2⟩ := hb.cons
    have hl : r.length = q.length := by simpa using h
    obtain ⟨r0, r1⟩ := decN_bd r a2
    obtain ⟨q0, q1⟩ := decN_bd q b2
    rw [less_step', less_dec r q a2 b2 hl, decN_cons, decN_cons, hl] at *
    generalize (10 : Int) ^ q.length = p at *
    have hp : 0 ≤ p := by omega
    rw [Bool.eq_iff_iff]
    simp only [Bool.or_eq_true, Bool.and_eq_true, decide_eq_true_eq]
    constructor
    · rintro (h | ⟨h1, h2⟩)
      · have : (bi a - 48 + 1) * p ≤ (bi b - 48) * p := Int.mul_le_mul_of_nonneg_right (by omega) hp
        rw [Int.add_mul] at this
        omega
      · rw [h1]; omega
    · intro hlt
      by_cases h1 : bi a < bi b
      · exact .inl h1
      · by_cases h2 : bi a = bi b
        · exact .inr ⟨h2, by rw [h2] at hlt; omega⟩
        · have : (bi b - 48 + 1) * p ≤ (bi a - 48) * p := Int.mul_le_mul_of_nonneg_right (by omega) hp
          rw [Int.add_mul] at this
          omega
def aboveB (s t : List UInt8) : Bool := decide (t.length < s.length) || (decide (s.length = t.length) && Op.bytesLess t s)
theorem pow10_le {a b : Nat} (h : a ≤ b) : (10 : Int) ^ a ≤ 10 ^ b := by
  have : (10 : Nat) ^ a ≤ 10 ^ b := Nat.pow_le_pow_right (by omega) h
  exact_mod_cast this
theorem aboveB_eq (s t : List UInt8) (hs : decOk s = true) (ht : decOk t = true) (ht2 : 2 ≤ t.length) : aboveB s t = decide (decN t < decN s) := by
  obtain ⟨s1, s2, s3⟩ := (decOk_iff s).1 hs
  obtain ⟨t1, t2, t3⟩ := (decOk_iff t).1 ht
  have sb := decN_bd s s1
  have tb := decN_bd t t1
  unfold aboveB
  by_cases h1 : t.length < s.length
  · have lo := decN_lo s s1 s2 (fun e => by have := s3 e; omega)
    have := pow10_le (show t.length ≤ s.length - 1 by omega)
    rw [decide_eq_true h1, Bool.true_or]
    exact (decide_eq_true (by omega)).symm
  · by_cases h2 : s.length = t.length
    · rw [less_dec t s t1 s1 h2.symm]
      simp [h1, h2]
    · have lo := decN_lo t t1 t2 (fun e => by have := t3 e; omega)
      have := pow10_le (show s.length ≤ t.length - 1 by omega)
      simp [h1, h2]
      omega

def maxU : Int := 18446744073709551615
def maxI : Int := 9223372036854775807
def decCode (m : Int) (s : List UInt8) : Int := if decOk s = true then (if decN s ≤ m then 0 else 4) else 3
def decVal (m : Int) (s : List UInt8) : Int := if decCode m s = 0 then decN s else 0
def negS (s : List UInt8) : Bool := decide (s ≠ [] ∧ byteAt s 0 = 45)
def intCode (s : List UInt8) : Int := if negS s = true then (if s.tail = [48] then 3 else decCode 9223372036854775808 s.tail) else decCode 9223372036854775807 s
def intVal (s : List UInt8) : Int := if intCode s = 0 then (if negS s = true then - decN s.tail else decN s) else 0
def decT (n : Int) : List UInt8 := if n < 0 then 45 :: decB 19 (-n) else decB 19 n
theorem decCode_zero {m : Int} {s : List UInt8} (h : decCode m s = 0) : decOk s = true ∧ decN s ≤ m := by
  unfold decCode at h
  split at h
  · rename_i h1
    split at h
    · rename_i h2; exact ⟨h1, h2⟩
    · simp at h
  · simp at h
theorem decN_nonneg {s : List UInt8} (h : decOk s = true) : 0 ≤ decN s := (decN_bd s ((decOk_iff s).1 h).1).1
theorem negS_dec (s : List UInt8) (h : decOk s = true) : negS s = false := by
  obtain ⟨s1, s2, _⟩ := (decOk_iff s).1 h
  have := s1 0 (List.length_pos_iff.2 s2)
  simp [negS]; omega
theorem intBack (n : Int) (h0 : -9223372036854775808 ≤ n) (h1 : n ≤ 9223372036854775807) : intCode (decT n) = 0 ∧ intVal (decT n) = n := by
  have hp : (10 : Int) ^ (19 + 1) = 100000000000000000000 := by decide +kernel
  by_cases hn : n < 0
  · have ok := decB_decOk 19 (-n) (by omega) (by rw [hp]; omega)
    obtain ⟨_, hN, _, _⟩ := decB_ok 19 (-n) (by omega) (by rw [hp]; omega)
    have h48 : decN [48] = 0 := by decide +kernel
    have hne : decB 19 (-n) ≠ [48] := fun e => by rw [e, h48] at hN; omega
    have hneg : negS (45 :: decB 19 (-n)) = true := by simp [negS, byteAt_zero']; decide
    have hc : intCode (45 :: decB 19 (-n)) = 0 := by
      unfold intCode
      rw [if_pos hneg, List.tail_cons, if_neg hne]
      unfold decCode
      rw [if_pos ok, if_pos (by omega)]
    unfold decT
    rw [if_pos hn]
    refine ⟨hc, ?_⟩
    unfold intVal
    rw [if_pos hc, if_pos hneg, List.tail_cons, hN]; omega
  · have ok := decB_decOk 19 n (by omega) (by rw [hp]; omega)
    obtain ⟨_, hN, _, _⟩ := decB_ok 19 n (by omega) (by rw [hp]; omega)
    have hneg := negS_dec _ ok
    have hc : intCode (decB 19 n) = 0 := by
      unfold intCode
      rw [hneg, if_neg (by simp)]
      unfold decCode
      rw [if_pos ok, if_pos (by omega)]
    unfold decT
    rw [if_neg hn]
    refine ⟨hc, ?_⟩
    unfold intVal
    rw [if_pos hc, hneg, if_neg (by simp), hN]
theorem natBack (u : Int) (h0 : 0 ≤ u) (h1 : u ≤ 18446744073709551615) : decCode 18446744073709551615 (decB 19 u) = 0 ∧ decVal 18446744073709551615 (decB 19 u) = u := by
  have hp : (10 : Int) ^ (19 + 1) = 100000000000000000000 := by decide +kernel
  have ok := decB_decOk 19 u (by omega) (by rw [hp]; omega)
  obtain ⟨_, hN, _, _⟩ := decB_ok 19 u (by omega) (by rw [hp]; omega)
  have hc : decCode 18446744073709551615 (decB 19 u) = 0 := by
    unfold decCode
    rw [if_pos ok, if_pos (by omega)]
  refine ⟨hc, ?_⟩
  unfold decVal
  rw [if_pos hc, hN]
theorem intVal_bd (s : List UInt8) : -9223372036854775808 ≤ intVal s ∧ intVal s ≤ 9223372036854775807 := by
  unfold intVal
  split
  · rename_i h
    unfold intCode at h
    split at h
    · rename_i hn
      rw [if_pos hn]
      split at h
      · simp at h
      · obtain ⟨a, b⟩ := decCode_zero h
        have := decN_nonneg a
        omega
    · rename_i hn
      rw [if_neg hn]
      obtain ⟨a, b⟩ := decCode_zero h
      have := decN_nonneg a
      omega
  · omega
/-- What is read as a number is that number's digits. -/
theorem intOne (s : List UInt8) (h : intCode s = 0) : decT (intVal s) = s := by
  have hp : (10 : Int) ^ (19 + 1) = 100000000000000000000 := by decide +kernel
  have hc := h
  unfold intVal
  rw [if_pos h]
  unfold intCode at h
  split at h
  · rename_i hn
    rw [if_pos hn]
    split at h
    · simp at h
    · rename_i h48
      obtain ⟨a, b⟩ := decCode_zero h
      have hb := decB_decN 19 _ a (by rw [hp]; omega)
      have h0 := decN_nonneg a
      have hpos : decN s.tail ≠ 0 := fun e => by
        rw [e] at hb
        exact h48 (hb.symm.trans (by decide +kernel))
      unfold decT
      rw [if_pos (by omega), Int.neg_neg, hb]
      have hs : s ≠ [] ∧ byteAt s 0 = 45 := by simpa [negS] using hn
      match s, hs with
      | c :: r, ⟨_, h45⟩ =>
        rw [byteAt_zero'] at h45
        rw [List.tail_cons, ← bt_bi c, h45]; rfl
  · rename_i hn
    rw [if_neg hn]
    obtain ⟨a, b⟩ := decCode_zero h
    have hb := decB_decN 19 _ a (by rw [hp]; omega)
    have h0 := decN_nonneg a
    unfold decT
    rw [if_neg (by omega), hb]
end Go.Proofs.Ytgfdmdikiickpaa
