/-
  JSON's numbers: what a text put together of its parts is worth.
-/
import Derived.Test.YtgfdmdikiickpaaPJnumY
namespace Go.Proofs.Ytgfdmdikiickpaa
open Go.RowKit

def NoD (r : List UInt8) : Prop := r = [] ∨ ∃ b t, r = b :: t ∧ isD (bi b) = false
theorem isD_iff (b : Int) : isD b = true ↔ 48 ≤ b ∧ b ≤ 57 := decide_eq_true_iff
theorem runD_app : ∀ (l r : List UInt8), Digs l → NoD r → runD (l ++ r) = l.length
  | [], r, _, h => by
    rcases h with rfl | ⟨b, t, rfl, hb⟩
    · rfl
    · show runD (b :: t) = 0
      simp only [runD]
      rw [hb]; rfl
  | b :: l, r, hd, h => by
    obtain ⟨h0, h1, h2⟩ := hd.cons
    show runD (b :: (l ++ r)) = (b :: l).length
    simp only [runD, List.length_cons]
    rw [(isD_iff (bi b)).2 ⟨h0, h1⟩, runD_app l r h2 h]; rfl
theorem digR_app {l r : List UInt8} (hd : Digs l) (hl : l ≠ []) (h : NoD r) : digR (l ++ r) = (0, l.length) := by
  unfold digR
  rw [runD_app l r hd h, if_neg (by have := List.length_pos_iff.2 hl; omega)]
theorem wholeR_app {l r : List UInt8} (hd : decOk l = true) (h : NoD r) : wholeR (l ++ r) = (0, l.length) := by
  obtain ⟨d1, d2, d3⟩ := (decOk_iff l).1 hd
  obtain ⟨b, t, rfl⟩ := List.exists_cons_of_ne_nil d2
  unfold wholeR
  by_cases hb : b = 48
  · subst hb
    have ht : t = [] := by
      have := d3 rfl
      simpa using this
    subst ht
    have e : eatN [48] ([48] ++ r) = 1 := rfl
    rw [if_pos e]; rfl
  · rw [if_neg (by simp [eatN, hb])]
    exact digR_app d1 d2 h
theorem dig_ne {l : List UInt8} (h : Digs l) {b : UInt8} {t : List UInt8} (e : l = b :: t) : b ≠ 45 ∧ b ≠ 43 ∧ b ≠ 46 := by
  subst e
  obtain ⟨h0, h1, _⟩ := h.cons
  refine ⟨?_, ?_, ?_⟩ <;> (rintro rfl; revert h0; decide)
/-- The dot and what stands behind it. -/
def dotT (dot : Bool) (B : List UInt8) : List UInt8 := if dot = true then 46 :: B else []
/-- The power. -/
def expT (ex : Bool) (x : UInt8) (P : List UInt8) : List UInt8 := if ex = true then x :: P else []
theorem exp_noD {ex : Bool} {x : UInt8} {P : List UInt8} (hx : x = 101 ∨ x = 69) : NoD (expT ex x P) := by
  cases ex with
  | true => exact .inr ⟨x, P, rfl, by rcases hx with rfl | rfl <;> decide⟩
  | false => exact .inl rfl
theorem dot_noD {dot ex : Bool} {x : UInt8} {B P : List UInt8} (hx : x = 101 ∨ x = 69) : NoD (dotT dot B ++ expT ex x P) := by
  cases dot with
  | true => exact .inr ⟨46, _, rfl, by decide⟩
  | false => exact exp_noD hx
theorem drop_app {a b : List UInt8} {k : Nat} (h : k = a.length) : (a ++ b).drop k = b := by subst h; exact List.drop_left
theorem num_built {sg W B sx Q : List UInt8} {dot ex : Bool} {x : UInt8} (hsg : sg = [] ∨ sg = [45]) (hW : decOk W = true) (hB : dot = true → Digs B ∧ B ≠ []) (hB0 : dot = false → B = [])
    (hx : x = 101 ∨ x = 69) (hsx : sx = [] ∨ sx = [43] ∨ sx = [45]) (hQ : ex = true → Digs Q ∧ Q ≠ []) (hQ0 : ex = false → sx = [] ∧ Q = []) {s : List UInt8} (hs : s = sg ++ (W ++ (dotT dot B ++ expT ex x (sx ++ Q)))) :
    numOk s = true ∧ pN0 s = sg.length ∧ pWhole s = W ∧ pBehind s = B ∧ pPower s = sx ++ Q := by
  obtain ⟨w1, w2, w3⟩ := (decOk_iff W).1 hW
  have h0 : pN0 s = sg.length := by
    rw [hs]
    rcases hsg with rfl | rfl
    · obtain ⟨b, t, rfl⟩ := List.exists_cons_of_ne_nil w2
      have := (dig_ne w1 rfl).1
      show eatN [45] (b :: _) = 0
      simp [eatN, this]
    · rfl
  have hd0 : s.drop (pN0 s) = W ++ (dotT dot B ++ expT ex x (sx ++ Q)) := by rw [h0, hs]; exact drop_app rfl
  have h1 : pR1 s = (0, W.length) := by unfold pR1; rw [hd0]; exact wholeR_app hW (dot_noD hx)
  have hE1 : pE1 s = sg.length + W.length := by unfold pE1; rw [h0, h1]
  have hWh : pWhole s = W := by unfold pWhole; rw [hd0, h1]; exact List.take_left
  have hd1 : s.drop (pE1 s) = dotT dot B ++ expT ex x (sx ++ Q) := by
    rw [hE1, ← List.drop_drop, ← h0, hd0]; exact drop_app rfl
  have hlen : s.length = sg.length + W.length + (dotT dot B).length + (expT ex x (sx ++ Q)).length := by rw [hs]; simp; omega
  have h2 : pDot s = dot ∧ pBehind s = B ∧ pE2 s = sg.length + W.length + (dotT dot B).length ∧ pC2 s = 0 := by
    cases dot with
    | true =>
      obtain ⟨b1, b2⟩ := hB rfl
      have e : pDot s = true := decide_eq_true ⟨by rw [h1], by rw [hd1]; rfl⟩
      have e2 : s.drop (pE1 s + 1) = B ++ expT ex x (sx ++ Q) := by rw [← List.drop_drop, hd1]; rfl
      have e3 : pR2 s = (0, B.length) := by unfold pR2; rw [e2]; exact digR_app b1 b2 (exp_noD hx)
      refine ⟨e, ?_, ?_, ?_⟩
      · unfold pBehind; rw [if_pos e, e2, e3]; exact List.take_left
      · unfold pE2; rw [if_pos e, hE1, e3]; simp [dotT]; omega
      · unfold pC2; rw [if_pos e, e3]
    | false =>
      obtain rfl := hB0 rfl
      have e : pDot s = false := by
        refine decide_eq_false (fun h => ?_)
        have h := h.2
        rw [hd1] at h
        cases ex with
        | true => rcases hx with rfl | rfl <;> exact absurd h (by simp [dotT, expT, eatN])
        | false => exact absurd h (by simp [dotT, expT, eatN])
      refine ⟨e, ?_, ?_, ?_⟩
      · unfold pBehind; rw [e]; rfl
      · unfold pE2; rw [e, hE1]; rfl
      · unfold pC2; rw [e, h1]; rfl
  obtain ⟨hdt, hbe, hE2, hC2⟩ := h2
  have hd2 : s.drop (pE2 s) = expT ex x (sx ++ Q) := by
    rw [hE2, ← List.drop_drop, ← hE1, hd1]; exact drop_app rfl
  have h3 : pPower s = sx ++ Q ∧ pE3 s = s.length ∧ pC3 s = 0 := by
    cases ex with
    | true =>
      obtain ⟨q1, q2⟩ := hQ rfl
      have e : pExp s = true := decide_eq_true ⟨hC2, by rw [hd2]; rcases hx with rfl | rfl <;> rfl⟩
      have e2 : s.drop (pE2 s + 1) = sx ++ Q := by rw [← List.drop_drop, hd2]; rfl
      have e3 : pN3 s = sx.length := by
        unfold pN3
        rw [e2]
        rcases hsx with rfl | rfl | rfl
        · obtain ⟨b, t, rfl⟩ := List.exists_cons_of_ne_nil q2
          have := dig_ne q1 rfl
          show eatN [43, 45] (b :: t) = 0
          simp [eatN, this.1, this.2.1]
        · rfl
        · rfl
      have e4 : pR3 s = (0, Q.length) := by
        unfold pR3
        rw [← List.drop_drop, e2, e3, drop_app rfl]
        have := digR_app (r := []) q1 q2 (.inl rfl)
        rwa [List.append_nil] at this
      refine ⟨?_, ?_, ?_⟩
      · unfold pPower; rw [if_pos e, e2, e3, e4, List.take_of_length_le (by simp)]
      · unfold pE3; rw [if_pos e, e3, e4, hlen, hE2]; simp [expT]; omega
      · unfold pC3; rw [if_pos e, e4]
    | false =>
      obtain ⟨rfl, rfl⟩ := hQ0 rfl
      have e : pExp s = false := by
        refine decide_eq_false (fun h => ?_)
        have h := h.2
        rw [hd2] at h
        exact absurd h (by simp [expT, eatN])
      refine ⟨?_, ?_, ?_⟩
      · unfold pPower; rw [e]; rfl
      · unfold pE3; rw [e, hlen, hE2]; simp [expT]
      · unfold pC3; rw [e]; exact hC2
  exact ⟨decide_eq_true ⟨h3.2.2, h3.2.1⟩, h0, hWh, hbe, h3.1⟩
theorem dropZ_rep : ∀ j : Nat, dropZ (List.replicate j 48) = []
  | 0 => rfl
  | j + 1 => by
    rw [List.replicate_succ]
    unfold dropZ
    rw [if_pos rfl]
    exact dropZ_rep j
theorem dropZ_same {l : List UInt8} (h : byteAt l 0 ≠ 48) : dropZ l = l := by
  cases l with
  | nil => rfl
  | cons b r =>
    unfold dropZ
    rw [if_neg (fun e => h (by subst e; rfl))]
theorem takeW_rep (j : Nat) (r : List UInt8) : j ≤ ((List.replicate j 48 ++ r).takeWhile (· == (48 : UInt8))).length := by
  induction j with
  | zero => omega
  | succ j ih =>
    rw [List.replicate_succ, List.cons_append, List.takeWhile_cons, if_pos (show ((48 : UInt8) == 48) = true from rfl), List.length_cons]
    omega
theorem zerosN_rep (a : List UInt8) (j : Nat) : j ≤ zerosN (a ++ List.replicate j 48) := by
  unfold zerosN
  rw [List.reverse_append, List.reverse_replicate]
  exact takeW_rep j _
theorem ten20 : (10 : Int) ^ (19 + 1) = 100000000000000000000 := by decide +kernel
/-- A whole number's digits, with as many noughts behind as the power takes. -/
theorem whole_back {s : List UInt8} {n : Int} {j : Nat} (r0 : -9223372036854775808 ≤ n) (r1 : n ≤ 9223372036854775807) (hok : numOk s = true) (hM : decide (pN0 s = 1) = decide (n < 0))
    (hD : pWhole s ++ pBehind s = decB 19 (if n < 0 then -n else n) ++ List.replicate j 48) (hN : n ≠ 0 → numN s = -(j : Int)) : wholeJ s = (n, 0) := by
  have hr : 0 ≤ (if n < 0 then -n else n) ∧ (if n < 0 then -n else n) < 10 ^ (19 + 1) := by rw [ten20]; split <;> omega
  obtain ⟨b1, b2, b3, b4⟩ := decB_ok 19 (if n < 0 then -n else n) hr.1 hr.2
  have bok := decB_decOk 19 (if n < 0 then -n else n) hr.1 hr.2
  have bp : decB 19 (if n < 0 then -n else n) ≠ [] := decB_pos _ _
  unfold wholeJ
  rw [if_pos hok]
  by_cases hn : n = 0
  · subst hn
    have h48 : decB 19 (if (0 : Int) < 0 then -0 else 0) = [48] := by decide +kernel
    have : numD s = [] := by
      unfold numD
      rw [hD, h48]
      exact dropZ_rep (j + 1)
    rw [if_pos this]
  · have hN := hN hn
    have hT : decT n = (if decide (pN0 s = 1) = true then [45] else []) ++ decB 19 (if n < 0 then -n else n) := by
      rw [hM]
      unfold decT
      by_cases h : n < 0
      · rw [if_pos h, if_pos h, decide_eq_true h]; rfl
      · rw [if_neg h, if_neg h, decide_eq_false h]; rfl
    have hne : (if n < 0 then -n else n) ≠ 0 := by split <;> omega
    obtain ⟨L, hL⟩ : ∃ L, decB 19 (if n < 0 then -n else n) = L := ⟨_, rfl⟩
    rw [hL] at b1 b2 b3 b4 bok hD hT bp
    have hl : 0 < L.length := List.length_pos_iff.2 bp
    have hd : numD s = L ++ List.replicate j 48 := by
      unfold numD
      rw [hD]
      refine dropZ_same ?_
      rw [byteAt_app_left _ _ _ hl]
      intro h
      exact hne (b4 h)
    have hz := zerosN_rep L j
    have hdl : ((numD s).length : Int) = L.length + j := by rw [hd, List.length_append, List.length_replicate]; omega
    rw [if_neg (by rw [hd]; intro h; simp at h; exact bp h.1), hN, if_neg (by rw [hd]; omega), if_neg (by rw [hdl]; omega)]
    have htx : numT (decide (pN0 s = 1)) (numD s) (-(j : Int)) = decT n := by
      rw [hT]
      unfold numT
      congr 1
      by_cases h : -(j : Int) < 0
      · rw [if_pos h, hd, List.length_append, List.length_replicate, show (((L.length + j : Nat) : Int) + -(j : Int)).toNat = L.length by omega]
        exact List.take_left
      · obtain rfl : j = 0 := by omega
        rw [if_neg h, hd]; simp
    obtain ⟨c0, c1⟩ := intBack n r0 r1
    rw [htx, c0, c1]
def sgT (n : Int) : List UInt8 := if n < 0 then [45] else []
theorem decT_sg (n : Int) : decT n = sgT n ++ decB 19 (if n < 0 then -n else n) := by
  unfold decT sgT
  split <;> rfl
theorem sg_or (n : Int) : sgT n = [] ∨ sgT n = [45] := by unfold sgT; split <;> simp
theorem sg_len (n : Int) : decide ((sgT n).length = 1) = decide (n < 0) := by unfold sgT; split <;> simp [*]
theorem abs_ok (n : Int) (r0 : -9223372036854775808 ≤ n) (r1 : n ≤ 9223372036854775807) : 0 ≤ (if n < 0 then -n else n) ∧ (if n < 0 then -n else n) < 10 ^ (19 + 1) := by rw [ten20]; split <;> omega
theorem pow_k : ∀ k : Nat, k < 40 → powV (45 :: decB 19 (k : Int)) = -(k : Int) := by decide +kernel
theorem same_a (n : Int) (r0 : -9223372036854775808 ≤ n) (r1 : n ≤ 9223372036854775807) : wholeJ (decT n) = (n, 0) := by
  obtain ⟨q1, q2⟩ := abs_ok n r0 r1
  obtain ⟨h1, h2, h3, h4, h5⟩ := num_built (dot := false) (ex := false) (x := 101) (B := []) (sx := []) (Q := []) (s := decT n) (sg_or n) (decB_decOk 19 _ q1 q2) (by simp) (fun _ => rfl) (.inl rfl) (.inl rfl) (by simp) (fun _ => ⟨rfl, rfl⟩) (by rw [decT_sg]; simp [dotT, expT])
  exact whole_back (j := 0) r0 r1 h1 (by rw [h2]; exact sg_len n) (by rw [h3, h4]; simp) (fun _ => by unfold numN; rw [h4, h5]; rfl)
theorem same_b (n : Int) (r0 : -9223372036854775808 ≤ n) (r1 : n ≤ 9223372036854775807) (k : Nat) : wholeJ (decT n ++ [46] ++ List.replicate k 48 ++ [48]) = (n, 0) := by
  obtain ⟨q1, q2⟩ := abs_ok n r0 r1
  have hrep : List.replicate k (48 : UInt8) ++ [48] = List.replicate (k + 1) 48 := by rw [List.replicate_succ']
  obtain ⟨h1, h2, h3, h4, h5⟩ := num_built (dot := true) (ex := false) (x := 101) (B := List.replicate (k + 1) 48) (sx := []) (Q := []) (s := decT n ++ [46] ++ List.replicate k 48 ++ [48]) (sg_or n) (decB_decOk 19 _ q1 q2) (fun _ => ⟨digs_rep _, by simp⟩) (by simp) (.inl rfl) (.inl rfl) (by simp) (fun _ => ⟨rfl, rfl⟩) (by rw [decT_sg, List.append_assoc, hrep]; simp [dotT, expT])
  exact whole_back (j := k + 1) r0 r1 h1 (by rw [h2]; exact sg_len n) (by rw [h3, h4]) (fun _ => by unfold numN; rw [h4, h5, List.length_replicate]; show powV [] - _ = _; rw [show powV [] = 0 from rfl]; omega)
theorem same_c (n : Int) (r0 : -9223372036854775808 ≤ n) (r1 : n ≤ 9223372036854775807) (hn : n ≠ 0) (k : Nat) (hk : k < 40) : wholeJ (decT n ++ List.replicate k 48 ++ [101, 45] ++ decT (k : Int)) = (n, 0) := by
  obtain ⟨q1, q2⟩ := abs_ok n r0 r1
  obtain ⟨b1, b2, b3, b4⟩ := decB_ok 19 (if n < 0 then -n else n) q1 q2
  have hne : (if n < 0 then -n else n) ≠ 0 := by split <;> omega
  have bp : decB 19 (if n < 0 then -n else n) ≠ [] := decB_pos _ _
  have hk0 : decT (k : Int) = decB 19 (k : Int) := by unfold decT; rw [if_neg (by omega)]
  have kq : (0 : Int) ≤ (k : Int) ∧ (k : Int) < 10 ^ (19 + 1) := by rw [ten20]; omega
  obtain ⟨k1, _, _, _⟩ := decB_ok 19 (k : Int) kq.1 kq.2
  have hW : decOk (decB 19 (if n < 0 then -n else n) ++ List.replicate k 48) = true := by
    refine (decOk_iff _).2 ⟨digs_app b1 (digs_rep _), by intro h; simp at h; exact bp h.1, fun h => ?_⟩
    rw [byteAt_app_left _ _ _ (List.length_pos_iff.2 bp)] at h
    exact absurd (b4 h) hne
  obtain ⟨h1, h2, h3, h4, h5⟩ := num_built (dot := false) (ex := true) (x := 101) (B := []) (sx := [45]) (Q := decB 19 (k : Int)) (s := decT n ++ List.replicate k 48 ++ [101, 45] ++ decT (k : Int)) (sg_or n) hW (by simp) (fun _ => rfl) (.inl rfl) (.inr (.inr rfl)) (fun _ => ⟨k1, decB_pos _ _⟩) (by simp) (by rw [decT_sg n, hk0]; simp [dotT, expT])
  exact whole_back (j := k) r0 r1 h1 (by rw [h2]; exact sg_len n) (by rw [h3, h4]; simp) (fun _ => by unfold numN; rw [h4, h5]; show powV (45 :: decB 19 (k : Int)) - _ = _; rw [pow_k k hk]; simp)
theorem same_d (n : Int) (r0 : -9223372036854775808 ≤ n) (r1 : n ≤ 9223372036854775807) : wholeJ (decT n ++ [46, 48, 69, 43, 48]) = (n, 0) := by
  obtain ⟨q1, q2⟩ := abs_ok n r0 r1
  obtain ⟨h1, h2, h3, h4, h5⟩ := num_built (dot := true) (ex := true) (x := 69) (B := [48]) (sx := [43]) (Q := [48]) (s := decT n ++ [46, 48, 69, 43, 48]) (sg_or n) (decB_decOk 19 _ q1 q2) (fun _ => ⟨by decide, by simp⟩) (by simp) (.inr rfl) (.inr (.inl rfl)) (fun _ => ⟨by decide, by simp⟩) (by simp) (by rw [decT_sg]; simp [dotT, expT])
  exact whole_back (j := 1) r0 r1 h1 (by rw [h2]; exact sg_len n) (by rw [h3, h4]; rfl) (fun _ => by unfold numN; rw [h4, h5]; decide +kernel)
end Go.Proofs.Ytgfdmdikiickpaa
