/-
  Walks of package jnum: digits, one byte of some, a number.
-/
import Derived.Test.YtgfdmdikiickpaaJnum
namespace Go.Proofs.Ytgfdmdikiickpaa
open Go.RowKit

theorem dgB_true {c : Cu} (h : dgB c = true) : c.code = 0 ∧ c.pos < c.en ∧ isD (byteAt c.s c.pos) = true := by
  unfold dgB Cu.peeks Cu.peek at h
  by_cases hq : c.code = 0 ∧ c.pos < c.en
  · rw [decide_eq_true hq, if_pos hq] at h
    exact ⟨hq.1, hq.2, by simpa using h⟩
  · rw [decide_eq_false hq] at h
    simp at h
theorem dgB_false {c : Cu} (h : dgB c = false) (h0 : c.code = 0) (hlt : c.pos < c.en) : isD (byteAt c.s c.pos) = false := by
  unfold dgB Cu.peeks Cu.peek at h
  rw [decide_eq_true ⟨h0, hlt⟩, if_pos ⟨h0, hlt⟩] at h
  simpa using h
theorem Cu.fail_code (c : Cu) (n : Int) (hn : n ≠ 0) : (c.fail n).code ≠ 0 ∧ (c.fail n).pos = c.pos := by
  unfold Cu.fail
  split
  · exact ⟨hn, rfl⟩
  · rename_i h; exact ⟨h, rfl⟩
theorem dig_no {c : Cu} (hf : c.fit) (h : dgB c = false) : RdF digR c (if c.pos < c.en then c.fail 3 else c.take 1) := by
  by_cases h0 : c.code = 0
  · by_cases hlt : c.pos < c.en
    · rw [if_pos hlt]
      refine (RdF.fail 3 (by decide) hf).of_eq fun _ => ?_
      have hr : runD c.ahead = 0 := by rw [runD_at hlt hf, dgB_false h h0 hlt]; rfl
      have hne : c.ahead ≠ [] := by rw [ahead_cons hlt hf]; simp
      rw [digR, if_pos hr, if_neg hne]
      exact ⟨rfl, fun h => absurd h (by decide)⟩
    · rw [if_neg hlt, (Cu.take_cut h0 hlt).1]
      have e : ({ c with code := 1 } : Cu) = c.fail 1 := by unfold Cu.fail; rw [if_pos h0]
      rw [e]
      refine (RdF.fail 1 (by decide) hf).of_eq fun _ => ?_
      rw [digR, if_pos (runD_none hlt), if_pos (ahead_nil hlt)]
      exact ⟨rfl, fun h => absurd h (by decide)⟩
  · have e : (if c.pos < c.en then c.fail 3 else c.take 1) = c := by
      split
      · unfold Cu.fail; rw [if_neg h0]
      · exact Cu.take_bad h0 1
    rw [e]
    exact RdF.stay _ hf h0
theorem digit_sc {w wr : World} {b bc p0 : Nat} {c : Cu} (hS : Sc w wr b bc p0 c) (hf : c.fit) :
    Calls Try.prog 41 #[ptr b] wr fun e w' => e = .returned (.bool (dgB c)) ∧ Sc w w' b bc p0 c :=
  (digit_any hS hf).mono fun _ _ ⟨he, n, hw⟩ => ⟨he, hw ▸ hS.drewN n⟩
theorem left_sc {w wr : World} {b bc p0 : Nat} {c : Cu} (hS : Sc w wr b bc p0 c) (hf : c.fit) :
    Calls Try.prog 16 #[ptr bc] wr fun e w' => e = .returned (.int .i64 ((c.en : Int) - c.pos)) ∧ Sc w w' b bc p0 c :=
  (left_any bc c _ hS.cur hf).mono fun _ _ ⟨he, n, hw⟩ => ⟨he, hw ▸ hS.drewN n⟩
theorem peek_sc {w wr : World} {b bc p0 : Nat} {c : Cu} (hS : Sc w wr b bc p0 c) (hf : c.fit) :
    Calls Try.prog 39 #[ptr bc] wr fun e w' => e = .returned (.tuple #[.int .u8 c.peek, .bool c.peeks]) ∧ Sc w w' b bc p0 c :=
  (peek_any bc c _ hS.cur hf).mono fun _ _ ⟨he, n, hw⟩ => ⟨he, hw ▸ hS.drewN n⟩
theorem fail_sc {w wr : World} {b bc p0 : Nat} {c : Cu} (hS : Sc w wr b bc p0 c) (n : Int) (hn : n ≠ 0) :
    Calls Try.prog 42 #[ptr bc, .int .i64 n] wr fun e w' => e = .returned (.tuple #[]) ∧ Sc w w' b bc p0 (c.fail n) :=
  (fail_any bc c n _ hS.cur).mono fun _ _ ⟨he, hc, hg⟩ => ⟨he, hS.move hc hg (by rw [(Cu.fail_code c n hn).2]; exact Nat.le_refl _) (fun h => absurd h (Cu.fail_code c n hn).1)⟩
/-- A byte that isn't there. -/
theorem byte_sc {w wr : World} {b bc p0 : Nat} {c : Cu} (hS : Sc w wr b bc p0 c) (hf : c.fit) (h : c.code ≠ 0 ∨ ¬ c.pos < c.en) :
    Calls Try.prog 43 #[ptr bc] wr fun e w' => e = .returned (.int .u8 c.byte) ∧ Sc w w' b bc p0 (c.take 1) := by
  have ht : (c.take 1).pos = c.pos ∧ (c.take 1).code ≠ 0 := by
    by_cases h0 : c.code = 0
    · rw [(Cu.take_cut h0 (h.resolve_left (fun q => q h0))).1]; exact ⟨rfl, by show (1 : Int) ≠ 0; decide⟩
    · rw [Cu.take_bad h0]; exact ⟨rfl, h0⟩
  exact (byte_any bc c _ hS.cur hf).mono fun _ _ ⟨he, hc, hg⟩ => ⟨he, hS.move hc hg (by rw [ht.1]; exact Nat.le_refl _) (fun h => absurd h ht.2)⟩
/-- What is left of a cursor, by its block. -/
def restJ (w : World) (b : Nat) : Nat := match w.cell? ⟨b, 1, none⟩, w.cell? ⟨b, 2, none⟩ with
  | some (.int _ p), some (.int _ e) => (e - p).toNat
  | _, _ => 0
theorem restJ_at {w : World} {b : Nat} {c : Cu} (h : CurAt w b c) : restJ w b = c.en - c.pos := by
  unfold restJ
  rw [h.cell 1, h.cell 2]
  show ((c.en : Int) - (c.pos : Int)).toNat = _
  omega
/-- Behind k digits, where one more is next. -/
structure DgAt (w wr : World) (b bc p0 : Nat) (c : Cu) (k : Nat) : Prop where
  sc : Sc w wr b bc p0 { c with pos := c.pos + k }
  run : runD c.ahead = k + runD ({ c with pos := c.pos + k } : Cu).ahead
  dig : dgB { c with pos := c.pos + k } = true
theorem runD_stop {c : Cu} (hf : c.fit) (h0 : c.code = 0) (h : dgB c = false) : runD c.ahead = 0 := by
  by_cases hlt : c.pos < c.en
  · rw [runD_at hlt hf, dgB_false h h0 hlt]; rfl
  · exact runD_none hlt
theorem dig_done {c : Cu} {n : Nat} (hf : c.fit) (h0 : c.code = 0) (hr : runD c.ahead = n) (hn : n ≠ 0) : RdF digR c { c with pos := c.pos + n } := by
  have hl := runD_le c.ahead
  rw [Cu.ahead_length hf] at hl
  have l1 := hf.le1
  have e : digR c.ahead = (0, n) := by rw [digR, if_neg (by omega), hr]
  refine ⟨rfl, rfl, ⟨by show c.pos + n ≤ c.en; omega, hf.le2, hf.le3⟩, fun h => absurd h0 h, fun _ => ?_⟩
  rw [e]
  exact ⟨h0, fun _ => rfl⟩
theorem DgAt.next {w wr w' : World} {b bc p0 : Nat} {c : Cu} {k : Nat} (h : DgAt w wr b bc p0 c k) (hf : c.fit) (hs : Sc w w' b bc p0 { c with pos := c.pos + k + 1 }) :
    runD c.ahead = (k + 1) + runD ({ c with pos := c.pos + (k + 1) } : Cu).ahead ∧ Sc w w' b bc p0 { c with pos := c.pos + (k + 1) } := by
  obtain ⟨d0, d1, d2⟩ := dgB_true h.dig
  have hfk : ({ c with pos := c.pos + k } : Cu).fit := ⟨Nat.le_of_lt d1, hf.le2, hf.le3⟩
  have h1 := h.run
  rw [runD_at d1 hfk, if_pos d2] at h1
  refine ⟨?_, hs⟩
  rw [h1]
  show k + (runD ({ c with pos := c.pos + k + 1 } : Cu).ahead + 1) = _
  rw [show c.pos + k + 1 = c.pos + (k + 1) from rfl]
  omega
set_option maxRecDepth 100000 in
set_option maxHeartbeats 1000000 in
theorem digits_any {w wr : World} {b bc p0 : Nat} {c : Cu} (hS : Sc w wr b bc p0 c) (hf : c.fit) (hsm : c.s.length ≤ 1000000) :
    Calls Try.prog 29 #[ptr b] wr fun e w' => ∃ c', e = .returned (.tuple #[]) ∧ RdF digR c c' ∧ Sc w w' b bc p0 c' := by
  have HS := hid hS
  have hc0 := hS.cells
  clear hS
  cases hd : dgB c with
  | false =>
    have HR := hid (dig_no hf hd)
    have HD := hid hd
    clear hd
    by_cases hlt : c.pos < c.en
    · rw [if_pos hlt] at HR
      have HT := hid (Cu.take_bad (Cu.fail_code c 3 (by decide)).1 1)
      have hl : (0 : Int) < (c.en : Int) - c.pos := by omega
      go_enter Try.func29, Try.ntmps29
      go_wp2_with fail
      go_step3
      go_wp2_with fail
      refine (digit_sc HS.out hf).mono ?_; rintro e w1 ⟨rfl, hS1⟩
      rw [HD.out]
      have HS1 := hid hS1
      have hc1 := HS1.out.cells
      clear hc0 HS hS1
      go_wp2_with fail
      refine (left_sc HS1.out hf).mono ?_; rintro e w2 ⟨rfl, hS2⟩
      have HS2 := hid hS2
      have hc2 := HS2.out.cells
      clear hc1 HS1 hS2
      go_wp2_with fail
      refine (fail_sc HS2.out 3 (by decide)).mono ?_; rintro e w3 ⟨rfl, hS3⟩
      have HS3 := hid hS3
      have hc3 := HS3.out.cells
      clear hc2 HS2 hS3
      go_wp2_with fail
      refine (byte_sc HS3.out HR.out.fit (.inl (Cu.fail_code c 3 (by decide)).1)).mono ?_; rintro e w4 ⟨rfl, hS4⟩
      rw [HT.out] at hS4
      have HS4 := hid hS4
      clear hc3 HS3 hS4
      go_wp2_with fail
      rw [Exit.noGoto_ret]
      refine bodyPost_ret (results_none rfl _ _ _) rfl ?_
      exact ⟨_, rfl, HR.out, HS4.out⟩
    · rw [if_neg hlt] at HR
      have hl : ¬ ((0 : Int) < (c.en : Int) - c.pos) := by omega
      go_enter Try.func29, Try.ntmps29
      go_wp2_with fail
      go_step3
      go_wp2_with fail
      refine (digit_sc HS.out hf).mono ?_; rintro e w1 ⟨rfl, hS1⟩
      rw [HD.out]
      have HS1 := hid hS1
      have hc1 := HS1.out.cells
      clear hc0 HS hS1
      go_wp2_with fail
      refine (left_sc HS1.out hf).mono ?_; rintro e w2 ⟨rfl, hS2⟩
      have HS2 := hid hS2
      have hc2 := HS2.out.cells
      clear hc1 HS1 hS2
      go_wp2_with fail
      refine (byte_sc HS2.out hf (.inr hlt)).mono ?_; rintro e w4 ⟨rfl, hS4⟩
      have HS4 := hid hS4
      clear hc2 HS2 hS4
      go_wp2_with fail
      rw [Exit.noGoto_ret]
      refine bodyPost_ret (results_none rfl _ _ _) rfl ?_
      exact ⟨_, rfl, HR.out, HS4.out⟩
  | true =>
    obtain ⟨d0, d1, d2⟩ := dgB_true hd
    have HD := hid hd
    have D0 := hid d0
    clear hd d0
    go_enter Try.func29, Try.ntmps29
    go_wp2_with fail
    refine wp_scope_jumps 0 (fun a' w' => ∃ (k : Nat) (u1 u2 u3 u4 u5 u6 u7 u8 u9 u10 u11 u12 u13 u14 u15 u16 u17 u18 u19 u20 u21 u22 u23 u24 : Value), a' = { tmps := #[ptr b, u1, u2, u3, u4, u5, u6, u7, u8, u9, u10, u11, u12, u13, u14, u15, u16, u17, u18, u19, u20, u21, u22, u23, u24], defers := [] } ∧ Hid (DgAt w w' b bc p0 c k)) (fun _ w' => restJ w' bc) rfl ?_ ?_
    · go_wp2_with fail
      refine (digit_sc HS.out hf).mono ?_; rintro e w1 ⟨rfl, hS1⟩
      rw [HD.out]
      go_wp2_with fail
      go_step3
      go_wp2_with fail
      refine (take_any hS1 (by exact hf) D0.out d1 hsm).mono ?_; rintro e w2 ⟨rfl, hS2⟩
      obtain ⟨hr2, hS2'⟩ := (DgAt.mk (k := 0) hS1 (Nat.zero_add _).symm HD.out).next hf hS2
      have HR2 := hid hr2
      have HS2 := hid hS2'
      obtain ⟨d0', d1', _⟩ := dgB_true (DgAt.mk (k := 0) hS1 (Nat.zero_add _).symm HD.out).dig
      have hf2 : ({ c with pos := c.pos + (0 + 1) } : Cu).fit := ⟨by show c.pos + (0 + 1) ≤ c.en; have : c.pos + 0 < c.en := d1'; omega, hf.le2, hf.le3⟩
      have hlt2 : c.pos + 0 < c.en := d1'
      clear hr2 hS2 hS2' d0' d1'
      go_wp2_with fail
      refine (digit_sc HS2.out hf2).mono ?_; rintro e w3 ⟨rfl, hS3⟩
      cases hq : dgB { c with pos := c.pos + (0 + 1) } with
      | true =>
        have HG := hid (DgAt.mk hS3 HR2.out hq)
        have hm3 := restJ_at hS3.cur
        clear hS3 hq
        go_wp2_with fail
        go_step3
        exact ⟨rfl, 0 + 1, _, _, _, _, _, _, _, _, _, _, _, _, _, _, _, _, _, _, _, _, _, _, _, _, rfl, HG⟩
      | false =>
        have HF := hid (dig_done hf D0.out (show runD c.ahead = 0 + 1 by rw [HR2.out, runD_stop hf2 D0.out hq]) (by omega))
        have HS3 := hid hS3
        clear hS3 hq
        go_wp2_with fail
        simp only [Exit.jump]
        refine bodyPost_end (results_none rfl _ _ _) rfl ?_
        exact ⟨_, rfl, HF.out, HS3.out⟩
    · rintro a' wk ⟨k, u1, u2, u3, u4, u5, u6, u7, u8, u9, u10, u11, u12, u13, u14, u15, u16, u17, u18, u19, u20, u21, u22, u23, u24, rfl, HDG⟩
      obtain ⟨g0, g1, g2⟩ := dgB_true HDG.out.dig
      have hmk := restJ_at HDG.out.sc.cur
      clear g0 g2 hc0 HS
      go_wp2_with fail
      refine (take_any HDG.out.sc (by exact ⟨Nat.le_of_lt g1, hf.le2, hf.le3⟩) D0.out g1 hsm).mono ?_; rintro e w2 ⟨rfl, hS2⟩
      obtain ⟨hr2, hS2'⟩ := HDG.out.next hf hS2
      have HR2 := hid hr2
      have HS2 := hid hS2'
      obtain ⟨d0', d1', _⟩ := dgB_true HDG.out.dig
      have hf2 : ({ c with pos := c.pos + (k + 1) } : Cu).fit := ⟨by show c.pos + (k + 1) ≤ c.en; have : c.pos + k < c.en := d1'; omega, hf.le2, hf.le3⟩
      have hlt2 : c.pos + k < c.en := d1'
      clear hr2 hS2 hS2' d0' d1'
      go_wp2_with fail
      refine (digit_sc HS2.out hf2).mono ?_; rintro e w3 ⟨rfl, hS3⟩
      cases hq : dgB { c with pos := c.pos + (k + 1) } with
      | true =>
        have HG := hid (DgAt.mk hS3 HR2.out hq)
        have hm3 := restJ_at hS3.cur
        clear hS3 hq
        go_wp2_with fail
        go_step3
        exact ⟨rfl, ⟨k + 1, _, _, _, _, _, _, _, _, _, _, _, _, _, _, _, _, _, _, _, _, _, _, _, _, rfl, HG⟩, by rw [hm3, hmk]; show c.en - (c.pos + (k + 1)) < c.en - (c.pos + k); omega⟩
      | false =>
        have HF := hid (dig_done hf D0.out (show runD c.ahead = k + 1 by rw [HR2.out, runD_stop hf2 D0.out hq]) (by omega))
        have HS3 := hid hS3
        clear hS3 hq
        go_wp2_with fail
        simp only [Exit.jump]
        refine bodyPost_end (results_none rfl _ _ _) rfl ?_
        exact ⟨_, rfl, HF.out, HS3.out⟩
end Go.Proofs.Ytgfdmdikiickpaa
