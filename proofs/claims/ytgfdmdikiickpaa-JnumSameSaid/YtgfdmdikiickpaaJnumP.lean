/-
  Walk of package jnum: going past a number; reading it.
-/
import Derived.Test.YtgfdmdikiickpaaJnumC
namespace Go.Proofs.Ytgfdmdikiickpaa
open Go.RowKit

theorem eatB_code {m : List UInt8} {c : Cu} (h : eatB m c = true) : c.code = 0 ∧ eatN m c.ahead = 1 := of_decide_eq_true h
theorem eatB_not {m : List UInt8} {c : Cu} (h : eatB m c = false) (h0 : c.code = 0) : eatN m c.ahead ≠ 1 := fun h1 => by
  unfold eatB at h
  rw [decide_eq_true ⟨h0, h1⟩] at h; cases h
theorem eatTo_yes {m : List UInt8} {c : Cu} (h : eatB m c = true) : eatTo m c = { c with pos := c.pos + 1 } := by unfold eatTo; rw [if_pos h]
theorem eatTo_no {m : List UInt8} {c : Cu} (h : eatB m c = false) : eatTo m c = c := by unfold eatTo; rw [h]; rfl
theorem whole_yes {c : Cu} (hf : c.fit) (h : eatB [48] c = true) : RdF wholeR c (eatTo [48] c) :=
  (eat_rd hf).of_eq fun _ => by
    obtain ⟨_, h1⟩ := eatB_code h
    rw [wholeR, if_pos h1, eatR, h1]; exact ⟨rfl, fun _ => rfl⟩
theorem whole_no {c c' : Cu} (h : eatB [48] c = false) (hr : RdF digR c c') : RdF wholeR c c' :=
  hr.of_eq fun h0 => by rw [wholeR, if_neg (eatB_not h h0)]; exact ⟨rfl, fun _ => rfl⟩
theorem frac_yes {c c' : Cu} (hf : c.fit) (h : eatB [46] c = true) (hr : RdF digR (eatTo [46] c) c') : RdF fracR c c' :=
  ((eat_rd (m := [46]) hf).seq hr).of_eq fun _ => by
    obtain ⟨_, h1⟩ := eatB_code h
    rw [fracR, if_pos h1]
    simp [eatR, h1]
theorem frac_no {c : Cu} (hf : c.fit) (h : eatB [46] c = false) : RdF fracR c c :=
  (RdF.nil hf).of_eq fun h0 => by rw [fracR, if_neg (eatB_not h h0)]; exact ⟨rfl, fun _ => rfl⟩
theorem exp_yes {c c1 c' : Cu} (hf : c.fit) (h : eatB [101, 69] c = true) (h1 : RdF (eatR [43, 45]) (eatTo [101, 69] c) c1) (hr : RdF digR c1 c') : RdF expR c c' :=
  ((eat_rd (m := [101, 69]) hf).seq (h1.seq hr)).of_eq fun _ => by
    obtain ⟨_, e1⟩ := eatB_code h
    rw [expR, if_pos e1]
    simp [eatR, e1]
theorem exp_no {c : Cu} (hf : c.fit) (h : eatB [101, 69] c = false) : RdF expR c c :=
  (RdF.nil hf).of_eq fun h0 => by rw [expR, if_neg (eatB_not h h0)]; exact ⟨rfl, fun _ => rfl⟩
theorem num_rd {c c1 c2 c3 c4 : Cu} (h1 : RdF (eatR [45]) c c1) (h2 : RdF wholeR c1 c2) (h3 : RdF fracR c2 c3) (h4 : RdF expR c3 c4) : RdF numR c c4 :=
  h1.seq (h2.seq (h3.seq h4))
theorem sm_of {R : List UInt8 → Int × Nat} {c c' : Cu} (h : RdF R c c') (hs : c.s.length ≤ 1000000) : c'.s.length ≤ 1000000 := by rw [h.s]; exact hs
set_option maxRecDepth 100000 in
set_option maxHeartbeats 2000000 in
theorem past_any {w wr : World} {b bc p0 : Nat} {c : Cu} (hS : Sc w wr b bc p0 c) (hf : c.fit) (hsm : c.s.length ≤ 1000000) :
    Calls Try.prog 17 #[ptr b] wr fun e w' => ∃ c', e = .returned (.tuple #[]) ∧ RdF numR c c' ∧ Sc w w' b bc p0 c' := by
  have HS := hid hS
  clear hS
  go_enter Try.func17, Try.ntmps17
  go_wp2_with fail
  refine (eat_any [45] HS.out hf hsm (by decide)).mono ?_; rintro e w1 ⟨rfl, hS1⟩
  have R1 := hid (eat_rd (m := [45]) hf)
  have HS1 := hid hS1
  have M1 := hid (sm_of R1.out hsm)
  obtain ⟨c1, h1⟩ : ∃ c1, eatTo [45] c = c1 := ⟨_, rfl⟩
  rw [h1] at HS1 R1 M1
  clear hS1 HS h1
  go_wp2_with fail
  refine (eat_any [48] HS1.out R1.out.fit M1.out (by decide)).mono ?_; rintro e w2 ⟨rfl, hS2⟩
  cases hq : eatB [48] c1 with
  | true =>
    obtain ⟨c2, e2⟩ : ∃ c2, eatTo [48] c1 = c2 := ⟨_, rfl⟩
    have R2 := hid (show RdF wholeR c1 c2 by rw [← e2]; exact whole_yes R1.out.fit hq)
    have HS3 := hid (show Sc w w2 b bc p0 c2 by rw [← e2]; exact hS2)
    have M3 := hid (sm_of R2.out M1.out)
    clear hq hS2 e2
    go_wp2_with fail
    refine (eat_any [46] HS3.out R2.out.fit M3.out (by decide)).mono ?_; rintro e w4 ⟨rfl, hS4⟩
    cases hr : eatB [46] c2 with
    | true =>
      have M4 := hid (sm_of (eat_rd (m := [46]) R2.out.fit) M3.out)
      have F4 := hid (eat_rd (m := [46]) R2.out.fit).fit
      have HS4 := hid hS4
      have HR := hid hr
      clear hr hS4
      go_wp2_with fail
      refine (digits_any HS4.out F4.out M4.out).mono ?_; rintro e w5 ⟨c3, rfl, hd, hS5⟩
      have R3 := hid (frac_yes R2.out.fit HR.out hd)
      have HS5 := hid hS5
      have M5 := hid (sm_of R3.out M3.out)
      clear hd hS5 HS4
      go_wp2_with fail
      refine (eat_any [101, 69] HS5.out R3.out.fit M5.out (by decide)).mono ?_; rintro e w6 ⟨rfl, hS6⟩
      cases hr : eatB [101, 69] c3 with
      | true =>
        have M6 := hid (sm_of (eat_rd (m := [101, 69]) R3.out.fit) M5.out)
        have F6 := hid (eat_rd (m := [101, 69]) R3.out.fit).fit
        have HS6 := hid hS6
        have HR := hid hr
        clear hr hS6
        go_wp2_with fail
        refine (eat_any [43, 45] HS6.out F6.out M6.out (by decide)).mono ?_; rintro e w7 ⟨rfl, hS7⟩
        have R7 := hid (eat_rd (m := [43, 45]) F6.out)
        have M7 := hid (sm_of R7.out M6.out)
        have HS7 := hid hS7
        clear hS7 HS6
        go_wp2_with fail
        refine (digits_any HS7.out R7.out.fit M7.out).mono ?_; rintro e w8 ⟨c4, rfl, hd, hS8⟩
        have R4 := hid (exp_yes R3.out.fit HR.out R7.out hd)
        have HS8 := hid hS8
        clear hd hS8 HS7
        go_wp2_with fail
        go_end0
        exact ⟨_, rfl, num_rd R1.out R2.out R3.out R4.out, HS8.out⟩
      | false =>
        have R4 := hid (exp_no R3.out.fit hr)
        have HS8 := hid (show Sc w w6 b bc p0 c3 by rw [← eatTo_no hr]; exact hS6)
        clear hr hS6
        go_wp2_with fail
        go_end0
        exact ⟨_, rfl, num_rd R1.out R2.out R3.out R4.out, HS8.out⟩
    | false =>
      obtain ⟨c3, e3⟩ : ∃ c3, c2 = c3 := ⟨_, rfl⟩
      have R3 := hid (show RdF fracR c2 c3 by rw [← e3]; exact frac_no R2.out.fit hr)
      have HS5 := hid (show Sc w w4 b bc p0 c3 by rw [← e3, ← eatTo_no hr]; exact hS4)
      have M5 := hid (sm_of R3.out M3.out)
      clear hr hS4 e3
      go_wp2_with fail
      refine (eat_any [101, 69] HS5.out R3.out.fit M5.out (by decide)).mono ?_; rintro e w6 ⟨rfl, hS6⟩
      cases hr : eatB [101, 69] c3 with
      | true =>
        have M6 := hid (sm_of (eat_rd (m := [101, 69]) R3.out.fit) M5.out)
        have F6 := hid (eat_rd (m := [101, 69]) R3.out.fit).fit
        have HS6 := hid hS6
        have HR := hid hr
        clear hr hS6
        go_wp2_with fail
        refine (eat_any [43, 45] HS6.out F6.out M6.out (by decide)).mono ?_; rintro e w7 ⟨rfl, hS7⟩
        have R7 := hid (eat_rd (m := [43, 45]) F6.out)
        have M7 := hid (sm_of R7.out M6.out)
        have HS7 := hid hS7
        clear hS7 HS6
        go_wp2_with fail
        refine (digits_any HS7.out R7.out.fit M7.out).mono ?_; rintro e w8 ⟨c4, rfl, hd, hS8⟩
        have R4 := hid (exp_yes R3.out.fit HR.out R7.out hd)
        have HS8 := hid hS8
        clear hd hS8 HS7
        go_wp2_with fail
        go_end0
        exact ⟨_, rfl, num_rd R1.out R2.out R3.out R4.out, HS8.out⟩
      | false =>
        have R4 := hid (exp_no R3.out.fit hr)
        have HS8 := hid (show Sc w w6 b bc p0 c3 by rw [← eatTo_no hr]; exact hS6)
        clear hr hS6
        go_wp2_with fail
        go_end0
        exact ⟨_, rfl, num_rd R1.out R2.out R3.out R4.out, HS8.out⟩
  | false =>
    have HS2 := hid (show Sc w w2 b bc p0 c1 by rw [← eatTo_no hq]; exact hS2)
    have HQ := hid hq
    clear hq hS2
    go_wp2_with fail
    refine (digits_any HS2.out R1.out.fit M1.out).mono ?_; rintro e w3 ⟨c2, rfl, hd, hS3⟩
    have R2 := hid (whole_no HQ.out hd)
    have HS3 := hid hS3
    have M3 := hid (sm_of R2.out M1.out)
    clear hd hS3 HS2
    go_wp2_with fail
    refine (eat_any [46] HS3.out R2.out.fit M3.out (by decide)).mono ?_; rintro e w4 ⟨rfl, hS4⟩
    cases hr : eatB [46] c2 with
    | true =>
      have M4 := hid (sm_of (eat_rd (m := [46]) R2.out.fit) M3.out)
      have F4 := hid (eat_rd (m := [46]) R2.out.fit).fit
      have HS4 := hid hS4
      have HR := hid hr
      clear hr hS4
      go_wp2_with fail
      refine (digits_any HS4.out F4.out M4.out).mono ?_; rintro e w5 ⟨c3, rfl, hd, hS5⟩
      have R3 := hid (frac_yes R2.out.fit HR.out hd)
      have HS5 := hid hS5
      have M5 := hid (sm_of R3.out M3.out)
      clear hd hS5 HS4
      go_wp2_with fail
      refine (eat_any [101, 69] HS5.out R3.out.fit M5.out (by decide)).mono ?_; rintro e w6 ⟨rfl, hS6⟩
      cases hr : eatB [101, 69] c3 with
      | true =>
        have M6 := hid (sm_of (eat_rd (m := [101, 69]) R3.out.fit) M5.out)
        have F6 := hid (eat_rd (m := [101, 69]) R3.out.fit).fit
        have HS6 := hid hS6
        have HR := hid hr
        clear hr hS6
        go_wp2_with fail
        refine (eat_any [43, 45] HS6.out F6.out M6.out (by decide)).mono ?_; rintro e w7 ⟨rfl, hS7⟩
        have R7 := hid (eat_rd (m := [43, 45]) F6.out)
        have M7 := hid (sm_of R7.out M6.out)
        have HS7 := hid hS7
        clear hS7 HS6
        go_wp2_with fail
        refine (digits_any HS7.out R7.out.fit M7.out).mono ?_; rintro e w8 ⟨c4, rfl, hd, hS8⟩
        have R4 := hid (exp_yes R3.out.fit HR.out R7.out hd)
        have HS8 := hid hS8
        clear hd hS8 HS7
        go_wp2_with fail
        go_end0
        exact ⟨_, rfl, num_rd R1.out R2.out R3.out R4.out, HS8.out⟩
      | false =>
        have R4 := hid (exp_no R3.out.fit hr)
        have HS8 := hid (show Sc w w6 b bc p0 c3 by rw [← eatTo_no hr]; exact hS6)
        clear hr hS6
        go_wp2_with fail
        go_end0
        exact ⟨_, rfl, num_rd R1.out R2.out R3.out R4.out, HS8.out⟩
    | false =>
      obtain ⟨c3, e3⟩ : ∃ c3, c2 = c3 := ⟨_, rfl⟩
      have R3 := hid (show RdF fracR c2 c3 by rw [← e3]; exact frac_no R2.out.fit hr)
      have HS5 := hid (show Sc w w4 b bc p0 c3 by rw [← e3, ← eatTo_no hr]; exact hS4)
      have M5 := hid (sm_of R3.out M3.out)
      clear hr hS4 e3
      go_wp2_with fail
      refine (eat_any [101, 69] HS5.out R3.out.fit M5.out (by decide)).mono ?_; rintro e w6 ⟨rfl, hS6⟩
      cases hr : eatB [101, 69] c3 with
      | true =>
        have M6 := hid (sm_of (eat_rd (m := [101, 69]) R3.out.fit) M5.out)
        have F6 := hid (eat_rd (m := [101, 69]) R3.out.fit).fit
        have HS6 := hid hS6
        have HR := hid hr
        clear hr hS6
        go_wp2_with fail
        refine (eat_any [43, 45] HS6.out F6.out M6.out (by decide)).mono ?_; rintro e w7 ⟨rfl, hS7⟩
        have R7 := hid (eat_rd (m := [43, 45]) F6.out)
        have M7 := hid (sm_of R7.out M6.out)
        have HS7 := hid hS7
        clear hS7 HS6
        go_wp2_with fail
        refine (digits_any HS7.out R7.out.fit M7.out).mono ?_; rintro e w8 ⟨c4, rfl, hd, hS8⟩
        have R4 := hid (exp_yes R3.out.fit HR.out R7.out hd)
        have HS8 := hid hS8
        clear hd hS8 HS7
        go_wp2_with fail
        go_end0
        exact ⟨_, rfl, num_rd R1.out R2.out R3.out R4.out, HS8.out⟩
      | false =>
        have R4 := hid (exp_no R3.out.fit hr)
        have HS8 := hid (show Sc w w6 b bc p0 c3 by rw [← eatTo_no hr]; exact hS6)
        clear hr hS6
        go_wp2_with fail
        go_end0
        exact ⟨_, rfl, num_rd R1.out R2.out R3.out R4.out, HS8.out⟩
/-- The text of the number ahead, if there is one. -/
def jtext (c : Cu) : List UInt8 := if c.code = 0 ∧ (numR c.ahead).1 = 0 then c.ahead.take (numR c.ahead).2 else []
theorem jtext_seg {c c' : Cu} (h : RdF numR c c') (hc : c'.code = 0) : seg c'.s c.pos c'.pos = jtext c := by
  have h0 : c.code = 0 := by
    by_cases q : c.code = 0
    · exact q
    · rw [h.bad q] at hc; exact absurd hc q
  obtain ⟨k1, k2⟩ := h.good h0
  have hk : (numR c.ahead).1 = 0 := by rw [← k1]; exact hc
  have e := k2 hk
  unfold jtext
  rw [if_pos ⟨h0, hk⟩]
  have hle := h.fit.le1
  have hp : c'.pos = c.pos + (numR c.ahead).2 := by rw [e]
  have he : c'.en = c.en := h.en
  unfold seg
  rw [h.s, hp, Nat.add_sub_cancel_left]
  show (c.s.drop c.pos).take _ = ((c.s.take c.en).drop c.pos).take _
  rw [List.drop_take, List.take_take, Nat.min_eq_left (by omega)]
set_option maxRecDepth 100000 in
set_option maxHeartbeats 1000000 in
theorem jread_any (bc : Nat) (c : Cu) (w : World) (hc : CurAt w bc c) (hf : c.fit) (hsm : c.s.length ≤ 1000000) :
    Calls Try.prog 12 #[ptr bc] w fun e w' => ∃ c', e = .returned (Sv (jtext c)) ∧ RdF numR c c' ∧ CurAt w' bc c' ∧ w.grownBy w' (some bc) := by
  have HS : Hid (Sc w (w.alloc (.cells #[ptr bc, .slice none 0 0] 42)) w.heap.size bc c.pos c) :=
    hid ⟨⟨_, [], Blk.new _ _ _, Own.nil _ _, by simp, fun _ => by simp [seg]⟩, hc.alloc _, only_alloc ⟨rfl, rfl, rfl, Nat.le_refl _, fun _ _ _ => rfl⟩ _, Nat.le_refl _, Ne.symm (Nat.ne_of_lt hc.lt), Nat.le_refl _⟩
  clear hc
  go_enter Try.func12, Try.ntmps12
  go_wp2_with fail
  refine (past_any HS.out hf hsm).mono ?_; rintro e w1 ⟨c', rfl, hr, hS1⟩
  have HS1 := hid hS1
  have HR := hid hr
  clear hS1 hr HS
  go_wp2_with fail
  refine (err_any bc c' _ HS1.out.cur).mono ?_; rintro e w2 ⟨rfl, rfl⟩
  by_cases h0 : c'.code = 0
  · have q0 : (c'.code != 0) = false := by simpa using h0
    obtain ⟨v, out, hB, hO, hl, ho⟩ := HS1.out.blk
    have HT := hid (show out = jtext c by rw [ho h0, jtext_seg HR.out h0])
    have g1 : w1.cell? ⟨w.heap.size, 1, none⟩ = some v := hB.cell 1
    have hts := run_to_string hO.bs
    clear ho h0 hB hO hl
    go_wp2_with fail
    go_ret
    exact ⟨c', by rw [← HT.out]; rfl, HR.out, HS1.out.cur, HS1.out.gr⟩
  · have q0 : (c'.code != 0) = true := by simpa using h0
    have HT := hid (show jtext c = [] by
      unfold jtext
      refine if_neg (fun ⟨a, b⟩ => h0 ?_)
      rw [(HR.out.good a).1, b])
    clear h0
    go_wp2_with fail
    go_ret
    exact ⟨c', by rw [HT.out]; rfl, HR.out, HS1.out.cur, HS1.out.gr⟩
end Go.Proofs.Ytgfdmdikiickpaa
