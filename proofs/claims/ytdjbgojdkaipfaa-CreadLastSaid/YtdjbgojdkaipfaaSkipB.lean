/-
  Walks of package cskip: what holds things, where the ways of one level less are known.
-/
import Derived.Test.YtdjbgojdkaipfaaSkip
import Derived.Test.YtdjbgojdkaipfaaHeadS
namespace Go.Proofs.Ytdjbgojdkaipfaa
open Go.RowKit

/-- The contract of 'value' where n levels are left. -/
def ValOk (n : Nat) : Prop := ∀ (b : Nat) (c : Cu) (kind deep : Int) (w : World), CurAt w b c → c.fit → 0 ≤ kind → kind ≤ 255 → 0 ≤ deep → deep ≤ 1000 → (32 - deep).toNat = n →
  Calls Try.prog 127 #[Kv b, .int .u8 kind, .int .i64 deep] w fun e w' => KPost (skipV n kind) b c w e w'
def InOk (n : Nat) : Prop := ∀ (b : Nat) (c : Cu) (kind deep : Int) (w : World), CurAt w b c → c.fit → 0 ≤ kind → kind ≤ 255 → 0 ≤ deep → deep ≤ 1000 → (32 - deep).toNat = n →
  Calls Try.prog 128 #[Kv b, .int .u8 kind, .int .i64 deep] w fun e w' => KPost (innerR (skipV n) kind) b c w e w'
theorem truthR_at {c : Cu} (hc : c.pos < c.en) (hf : c.fit) : truthR c.ahead = if 2 < byteAt c.s c.pos then (3, 0) else (0, 1) := by
  rw [ahead_cons hc hf]
  simp only [truthR, bi_ofByteAt]
theorem bi_lo (b : UInt8) : 0 ≤ bi b := by unfold bi; omega
theorem bi_hi (b : UInt8) : bi b ≤ 255 := by have := b.toNat_lt; unfold bi; omega
theorem sameB_one (k : Int) : sameB k 1 = decide (k = 1 ∨ k = 2) := by
  by_cases h1 : k = 1 <;> by_cases h2 : k = 2 <;> simp [sameB, h1, h2]
set_option maxRecDepth 100000 in
set_option maxHeartbeats 1000000 in
theorem inner_of {n : Nat} (hv : ValOk n) : InOk n := by
  intro b c kind deep w hc hf k0 k1 d0 d1 hn
  have HV := hid hv
  have HN := hid hn
  have hB := Bx.new hc
  have h0 := hB.cell
  have HB := hid hB
  clear hc hB hv hn
  unfold Kv
  by_cases hk : kind = 1 ∨ kind = 2
  case neg =>
    have HR := hid (show innerR (skipV n) kind = skipV n kind from funext fun a => by rw [innerR, if_neg hk])
    have HS := hid (show sameB kind 1 = false by rw [sameB_one, decide_eq_false hk])
    clear hk
    go_enter Try.func128, Try.ntmps128
    go_wp2_with fail
    refine (same_any kind 1 _).mono ?_; rintro e w1 ⟨rfl, rfl⟩
    rw [HS.out]
    go_wp2_with fail
    refine (HV.out b c kind deep _ HB.out.cur hf k0 k1 d0 d1 HN.out).mono ?_; rintro e w2 ⟨c2, rfl, hr2, hc2, hg2⟩
    have HB2 := hid (HB.out.move hc2 hg2)
    have HR2 := hid hr2
    clear hc2 hg2 hr2
    go_wp2_with fail
    go_end0
    exact KPost.mk (by rw [HR.out]; exact HR2.out) HB2.out
  have HR := hid (show innerR (skipV n) kind = truthR from funext fun a => by rw [innerR, if_pos hk])
  have HS := hid (show sameB kind 1 = true by rw [sameB_one, decide_eq_true hk])
  clear hk HV
  by_cases hc0 : c.code = 0
  case neg =>
    have HC := hid hc0
    have HT := hid (Cu.take_bad hc0 1)
    have HY := hid (show c.byte = 0 by simp [Cu.byte, Cu.why, hc0])
    clear hc0
    go_enter Try.func128, Try.ntmps128
    go_wp2_with fail
    refine (same_any kind 1 _).mono ?_; rintro e w1 ⟨rfl, rfl⟩
    rw [HS.out]
    go_wp2_with fail
    refine (byte_any b c _ HB.out.cur hf).mono ?_; rintro e w2 ⟨rfl, hc2, hg2⟩
    rw [HT.out] at hc2
    rw [HY.out]
    have HB2 := hid (HB.out.move hc2 hg2)
    clear hc2 hg2
    go_wp2_with fail
    go_end0
    exact KPost.mk (RdF.stay _ hf HC.out) HB2.out
  have HC := hid hc0
  by_cases hlt : c.pos < c.en
  case neg =>
    obtain ⟨ht, hb⟩ := Cu.take_cut hc0 hlt
    have HT := hid ht
    have HY := hid hb
    have HA := hid (ahead_nil hlt)
    clear hc0 ht hb
    go_enter Try.func128, Try.ntmps128
    go_wp2_with fail
    refine (same_any kind 1 _).mono ?_; rintro e w1 ⟨rfl, rfl⟩
    rw [HS.out]
    go_wp2_with fail
    refine (byte_any b c _ HB.out.cur hf).mono ?_; rintro e w2 ⟨rfl, hc2, hg2⟩
    rw [HT.out] at hc2
    rw [HY.out]
    have HB2 := hid (HB.out.move hc2 hg2)
    clear hc2 hg2
    go_wp2_with fail
    go_end0
    exact KPost.mk (c' := { c with code := 1 }) ⟨rfl, rfl, ⟨hf.le1, hf.le2, hf.le3⟩, fun h => absurd HC.out h, fun _ => by rw [HR.out, HA.out]; exact ⟨rfl, fun hz => absurd hz (by decide)⟩⟩ HB2.out
  obtain ⟨ht, hb⟩ := Cu.take_ok hc0 hlt
  have hf1 : ({ c with pos := c.pos + 1 } : Cu).fit := ⟨hlt, hf.le2, hf.le3⟩
  have HTR := hid (truthR_at hlt hf)
  have HT := hid ht
  have HY := hid hb
  generalize hN : byteAt c.s c.pos = N at HTR HY
  clear hc0 ht hb hN
  by_cases h2 : 2 < N
  · have HQ := hid (show truthR c.ahead = (3, 0) by rw [HTR.out, if_pos h2])
    go_enter Try.func128, Try.ntmps128
    go_wp2_with fail
    refine (same_any kind 1 _).mono ?_; rintro e w1 ⟨rfl, rfl⟩
    rw [HS.out]
    go_wp2_with fail
    refine (byte_any b c _ HB.out.cur hf).mono ?_; rintro e w2 ⟨rfl, hc2, hg2⟩
    rw [HT.out] at hc2
    rw [HY.out]
    have HB2 := hid (HB.out.move hc2 hg2)
    have h3 := HB2.out.cell
    clear hc2 hg2 h0
    go_wp2_with fail
    refine (fail_any b _ 3 _ HB2.out.cur).mono ?_; rintro e w4 ⟨rfl, hc4, hg4⟩
    rw [fail_at _ HC.out] at hc4
    have HB4 := hid (HB2.out.move hc4 hg4)
    clear hc4 hg4 h3
    go_wp2_with fail
    go_end0
    exact KPost.mk (c' := { c with pos := c.pos + 1, code := 3 }) ⟨rfl, rfl, ⟨hf1.le1, hf1.le2, hf1.le3⟩, fun h => absurd HC.out h, fun _ => by rw [HR.out, HQ.out]; exact ⟨rfl, fun hz => absurd hz (by decide)⟩⟩ HB4.out
  · have HQ := hid (show truthR c.ahead = (0, 1) by rw [HTR.out, if_neg h2])
    go_enter Try.func128, Try.ntmps128
    go_wp2_with fail
    refine (same_any kind 1 _).mono ?_; rintro e w1 ⟨rfl, rfl⟩
    rw [HS.out]
    go_wp2_with fail
    refine (byte_any b c _ HB.out.cur hf).mono ?_; rintro e w2 ⟨rfl, hc2, hg2⟩
    rw [HT.out] at hc2
    rw [HY.out]
    have HB2 := hid (HB.out.move hc2 hg2)
    clear hc2 hg2
    go_wp2_with fail
    go_end0
    exact KPost.mk (c' := { c with pos := c.pos + 1 }) ⟨rfl, rfl, hf1, fun h => absurd HC.out h, fun _ => by rw [HR.out, HQ.out]; exact ⟨HC.out, fun _ => rfl⟩⟩ HB2.out
/-- How a loop over things goes on: what is left to be read, read from here, is all of it, read from the start. -/
def Left (T R : List UInt8 → Int × Nat) (c0 c : Cu) : Prop := c.fit ∧ ∀ c', RdF R c c' → RdF T c0 c'
theorem Left.step {T R G : List UInt8 → Int × Nat} {c0 c c1 : Cu} (h : Left T (fun a => seqR (R a) G a) c0 c) (hr : RdF R c c1) : Left T G c0 c1 :=
  ⟨hr.fit, fun c' h' => h.2 c' (hr.seq h')⟩
theorem Left.done {T : List UInt8 → Int × Nat} {c0 c : Cu} (h : Left T (fun _ => (0, 0)) c0 c) : RdF T c0 c := h.2 c (RdF.nil h.1)
theorem Left.stop {T R : List UInt8 → Int × Nat} {c0 c : Cu} (h : Left T R c0 c) (hc : c.code ≠ 0) : RdF T c0 c := h.2 c (RdF.stay R h.1 hc)
def LRel (T f : List UInt8 → Int × Nat) (n : Nat) (w : World) (b : Nat) (c0 : Cu) (i : Value) (wr : World) : Prop :=
  ∃ (k : Nat) (c : Cu), k ≤ n ∧ i = .int .i64 (k : Int) ∧ Hid (Left T (itemsR f (n - k)) c0 c) ∧ Hid (Bx w wr b c)
theorem RdF.congr {R G : List UInt8 → Int × Nat} {c c' : Cu} (h : RdF R c c') (e : R c.ahead = G c.ahead) : RdF G c c' := by
  unfold RdF at *; rw [← e]; exact h
theorem listR_bd (a : List UInt8) : 0 ≤ (listR a).2.2.1 ∧ (listR a).2.2.1 ≤ 2147483647 ∧ 0 ≤ (listR a).2.2.2 ∧ (listR a).2.2.2 ≤ 15 := by
  have hz : (0 : Int) ≤ 0 ∧ (0 : Int) ≤ 2147483647 ∧ (0 : Int) ≤ 0 ∧ (0 : Int) ≤ 15 := by decide
  cases a with
  | nil => exact hz
  | cons b r =>
    have hs := sizeR_bd r
    have h1 := bi_lo b
    have h2 := bi_hi b
    simp only [listR]
    split
    · exact hz
    · split
      · split
        · exact ⟨hs.1, hs.2.1, by show 0 ≤ bi b % 16; omega, by show bi b % 16 ≤ 15; omega⟩
        · exact hz
      · exact ⟨by show 0 ≤ bi b / 16; omega, by show bi b / 16 ≤ 2147483647; omega, by show 0 ≤ bi b % 16; omega, by show bi b % 16 ≤ 15; omega⟩
theorem left_zero {T R : List UInt8 → Int × Nat} {c : Cu} (hf : c.fit) (h : c.code ≠ 0) : Left T R c c := ⟨hf, fun c' h' => by rw [h'.bad h]; exact RdF.stay T hf h⟩
set_option maxRecDepth 100000 in
set_option maxHeartbeats 1000000 in
theorem list_of {n : Nat} (hi : InOk n) (b : Nat) (c : Cu) (deep : Int) (w : World) (hc : CurAt w b c) (hf : c.fit) (d0 : 0 ≤ deep) (d1 : deep ≤ 999) (hn : (32 - (deep + 1)).toNat = n) :
    Calls Try.prog 155 #[Kv b, .int .i64 deep] w fun e w' => KPost (listsR (skipV n)) b c w e w' := by
  have HI := hid hi
  have HN := hid hn
  have hB := Bx.new hc
  have h0 := hB.cell
  have HB := hid hB
  clear hc hB hi hn
  have hwd : IntKind.i64.wrap (deep + 1) = deep + 1 := by rw [IntKind.wrap_i64]; omega
  unfold Kv
  go_enter Try.func155, Try.ntmps155
  go_wp2_with fail
  refine (listhead_any b c _ HB.out.cur hf).mono ?_; rintro e w1 ⟨c1, m, kind, rfl, hv, hvb, hvg, hc1, hg1⟩
  have HB1 := hid (HB.out.move hc1 hg1)
  have hL : ∃ M : Nat, m = (M : Int) ∧ m ≤ 2147483647 ∧ 0 ≤ kind ∧ kind ≤ 255 ∧ Left (listsR (skipV n)) (itemsR (innerR (skipV n) kind) M) c c1 := by
    by_cases h0 : c.code = 0
    · obtain ⟨e1, e2⟩ := hvg h0
      obtain ⟨b0, b1, b2, b3⟩ := listR_bd c.ahead
      refine ⟨m.toNat, by omega, by omega, by omega, by omega, hv.fit, fun c' h' => ?_⟩
      have hs : RdF (fun a => ((listR a).1, (listR a).2.1)) c c1 := hv
      exact (hs.seq h').congr (by simp only [listsR, e1, e2])
    · obtain ⟨e1, e2⟩ := hvb h0
      rw [hv.bad h0]
      exact ⟨0, by omega, by omega, by omega, by omega, left_zero hf h0⟩
  obtain ⟨M, rfl, hm, k0, k1, hL⟩ := hL
  have hrel0 : LRel (listsR (skipV n)) (innerR (skipV n) kind) M w b c (.int .i64 0) w1 := ⟨0, c1, Nat.zero_le _, rfl, hL, HB1.out |> hid⟩
  clear hv hvb hvg hc1 hg1 h0 HB HB1 hL
  go_wp2_with fail
  go_loopw [6] (fun i wr => LRel (listsR (skipV n)) (innerR (skipV n) kind) M w b c i wr) (fun i _ => M - (intOf i).toNat)
  case atStart => exact hrel0
  case round =>
    clear hrel0
    obtain ⟨k, ci, hk, rfl, HL, HBi⟩ := hrel
    have hcell := HBi.out.cell
    by_cases hlt : k < M
    · go_wp2_with fail
      refine (right_any b _ _ HBi.out.cur).mono ?_; rintro e w2 ⟨rfl, hw2⟩
      have HB2 := hid (HBi.out.ext hw2)
      have h2 := HB2.out.cell
      clear hw2 hcell
      by_cases hz : ci.code = 0
      · have hz1 : (ci.code == 0) = true := by simpa using hz
        have HL2 := hid (show Left (listsR (skipV n)) (fun a => seqR (innerR (skipV n) kind a) (itemsR (innerR (skipV n) kind) (M - (k + 1))) a) c ci by
          have := HL.out
          rw [show M - k = (M - (k + 1)) + 1 by omega] at this
          exact this)
        clear hz HL
        go_wp2_with fail
        refine (HI.out b ci kind (deep + 1) _ HB2.out.cur HL2.out.1 k0 k1 (by omega) (by omega) HN.out).mono ?_; rintro e w3 ⟨c3, rfl, hr3, hc3, hg3⟩
        have HB3 := hid (HB2.out.move hc3 hg3)
        have HL3 := hid (HL2.out.step hr3)
        clear hr3 hc3 hg3 HB2 h2 HL2
        go_wp2_with fail
        go_roundw
        case rel => exact ⟨k + 1, c3, by omega, by go_num, HL3, HB3⟩
        case measure => simp [intOf] <;> omega
      · have hz1 : (ci.code == 0) = false := by simpa using hz
        have HZ := hid hz
        clear hz
        go_wp2_with fail
        go_end0
        exact KPost.mk (HL.out.stop HZ.out) HB2.out
    · have hkM : k = M := by omega
      subst hkM
      go_wp2_with fail
      go_end0
      exact KPost.mk (by have := HL.out; rw [Nat.sub_self] at this; exact this.done) HBi.out
end Go.Proofs.Ytdjbgojdkaipfaa
