/-
  Walks of package chead: kinds, and the heads of fields.
-/
import Derived.Test.YtdjbgojdkaipfaaPHead
import Derived.Test.YtdjbgojdkaipfaaCurB
namespace Go.Proofs.Ytdjbgojdkaipfaa
open Go.RowKit

theorem fail_ok {c : Cu} (n : Int) (h : c.code = 0) : ({ c with pos := c.pos + 1 } : Cu).fail n = { c with pos := c.pos + 1, code := n } := by simp [Cu.fail, h]
theorem fail_at {c : Cu} (n : Int) (h : c.code = 0) {p : Nat} : ({ c with pos := p } : Cu).fail n = { c with pos := p, code := n } := by simp [Cu.fail, h]
set_option maxRecDepth 100000 in
theorem is_any (k : Int) (w : World) (h0 : 0 ≤ k) (h1 : k ≤ 255) :
    Calls Try.prog 65 #[.int .u8 k] w fun e w' => e = .returned (.bool (isK k)) ∧ w = w' := by
  by_cases a : 1 ≤ k
  · by_cases b : k ≤ 12
    · have hk := hid (show isK k = true from decide_eq_true ⟨a, b⟩)
      have a' : 0 < k := by omega
      go_enter Try.func65, Try.ntmps65
      go_wp2
      go_ret
      exact ⟨by rw [hk.out]; rfl, rfl⟩
    · have hk := hid (show isK k = false from decide_eq_false (fun h => b h.2))
      have a' : 0 < k := by omega
      go_enter Try.func65, Try.ntmps65
      go_wp2
      go_ret
      exact ⟨by rw [hk.out]; rfl, rfl⟩
  · have hk := hid (show isK k = false from decide_eq_false (fun h => a h.1))
    have a' : ¬ 0 < k := by omega
    go_enter Try.func65, Try.ntmps65
    go_wp2
    go_ret
    exact ⟨by rw [hk.out]; rfl, rfl⟩
def FPost (b : Nat) (c : Cu) (last : Int) (w : World) (e : Ending) (w' : World) : Prop :=
  ∃ c' id kind, e = .returned (.tuple #[.int .i64 id, .int .u8 kind]) ∧ Rd c c' (fieldR last c.ahead).1 (fieldR last c.ahead).2.1 ∧ (c.code ≠ 0 → id = 0 ∧ kind = 0) ∧
    (c.code = 0 → id = (fieldR last c.ahead).2.2.1 ∧ kind = (fieldR last c.ahead).2.2.2) ∧ CurAt w' b c' ∧ w.grownBy w' (some b)
theorem FPost.mk_bad {b : Nat} {c : Cu} {last : Int} {w w' : World} (h : c.code ≠ 0) (hf : c.fit) (hc : CurAt w' b c) (hg : w.grownBy w' (some b)) : FPost b c last w (.returned (.tuple #[.int .i64 0, .int .u8 0])) w' :=
  ⟨c, 0, 0, rfl, Rd.refl_bad h hf _ _, fun _ => ⟨rfl, rfl⟩, fun h0 => absurd h0 h, hc, hg⟩
theorem FPost.mk_ok {b : Nat} {c c' : Cu} {last : Int} {w w' : World} {K : Int} {n : Nat} {id kind : Int} (h : c.code = 0) (hr : fieldR last c.ahead = (K, n, id, kind)) (hs : c'.s = c.s) (he : c'.en = c.en) (hf : c'.fit) (hk : c'.code = K)
    (hp : K = 0 → c' = { c with pos := c.pos + n }) (hc : CurAt w' b c') (hg : w.grownBy w' (some b)) : FPost b c last w (.returned (.tuple #[.int .i64 id, .int .u8 kind])) w' :=
  ⟨c', id, kind, rfl, ⟨hs, he, hf, fun h0 => absurd h h0, fun _ => ⟨by rw [hr]; exact hk, fun h0 => by rw [hr] at h0 ⊢; exact hp h0⟩⟩, fun h0 => absurd h h0, fun _ => by rw [hr]; exact ⟨rfl, rfl⟩, hc, hg⟩
set_option maxRecDepth 100000 in
set_option maxHeartbeats 4000000 in
theorem field_any (b : Nat) (c : Cu) (last : Int) (w : World) (hc : CurAt w b c) (hf : c.fit) (l0 : -40000 ≤ last) (l1 : last ≤ 40000) :
    Calls Try.prog 55 #[ptr b, .int .i64 last] w fun e w' => FPost b c last w e w' := by
  by_cases hc0 : c.code = 0
  case neg =>
    have hne : (c.code != 0) = true := by simpa using hc0
    have ht := hid (Cu.take_bad hc0 1)
    have HC := hid hc0
    clear hc0
    go_enter Try.func55, Try.ntmps55
    go_wp2_with fail
    refine (byte_any b _ _ hc hf).mono ?_; rintro e w1 ⟨rfl, hc1, hg1⟩
    rw [ht.out] at hc1
    go_wp2_with fail
    refine (err_any b _ _ hc1).mono ?_; rintro e w2 ⟨rfl, rfl⟩
    go_wp2_with fail
    go_ret2
    exact FPost.mk_bad HC.out hf hc1 hg1
  by_cases hlt : c.pos < c.en
  case neg =>
    obtain ⟨ht, hb⟩ := Cu.take_cut hc0 hlt
    have HR := hid (show fieldR last c.ahead = (1, 0, 0, 0) by rw [ahead_nil hlt]; rfl)
    have HT := hid ht
    have HB := hid hb
    have HC := hid hc0
    have hp := hf.le1
    clear ht hb hc0
    go_enter Try.func55, Try.ntmps55
    go_wp2_with fail
    refine (byte_any b _ _ hc hf).mono ?_; rintro e w1 ⟨rfl, hc1, hg1⟩
    rw [HT.out] at hc1
    go_wp2_with fail
    refine (err_any b _ _ hc1).mono ?_; rintro e w2 ⟨rfl, rfl⟩
    go_wp2_with fail
    go_ret2
    exact FPost.mk_ok (c' := { c with code := 1 }) HC.out HR.out rfl rfl ⟨hf.le1, hf.le2, hf.le3⟩ rfl (fun h => absurd h (by decide)) hc1 hg1
  obtain ⟨ht, hb⟩ := Cu.take_ok hc0 hlt
  have hf1 : ({ c with pos := c.pos + 1 } : Cu).fit := ⟨hlt, hf.le2, hf.le3⟩
  have hah := ahead_cons hlt hf
  have n1 := byteAt_lo c.s c.pos
  have n2 := byteAt_hi c.s c.pos
  have hR : ∀ r, fieldR last c.ahead = r ↔ fieldR last (UInt8.ofNat (byteAt c.s c.pos).toNat :: ({ c with pos := c.pos + 1 } : Cu).ahead) = r := fun r => by rw [← hah]
  simp only [fieldR, bi_ofByteAt] at hR
  generalize hN : byteAt c.s c.pos = N at n1 n2 hb hR
  have HRR := hid hR
  have HT := hid ht
  have HB := hid hb
  have HC := hid hc0
  have hcode : (c.code != 0) = false := by rw [hc0]; rfl
  have hcode2 : (c.code == 0) = true := by rw [hc0]; rfl
  have hand := u8_and15 N n1 (by omega)
  clear ht hb hc0 hah hN hR
  by_cases hz : N = 0
  · have HR := hid ((HRR.out (0, 1, 0, 0)).2 (by rw [if_pos hz]))
    have h0 : (N == 0) = true := by simpa using hz
    clear hz
    go_enter Try.func55, Try.ntmps55
    go_wp2_with fail
    refine (byte_any b _ _ hc hf).mono ?_; rintro e w1 ⟨rfl, hc1, hg1⟩
    rw [HT.out] at hc1
    rw [HB.out]
    go_wp2_with fail
    refine (err_any b _ _ hc1).mono ?_; rintro e w2 ⟨rfl, rfl⟩
    go_wp2_with fail
    go_ret2
    exact FPost.mk_ok (c' := { c with pos := c.pos + 1 }) HC.out HR.out rfl rfl hf1 HC.out (fun _ => rfl) hc1 hg1
  have h0 : (N == 0) = false := by simpa using hz
  have k0 : 0 ≤ N % 16 := by omega
  have k1 : N % 16 ≤ 255 := by omega
  by_cases hk : isK (N % 16) = true
  case neg =>
    have hkf : isK (N % 16) = false := by simpa using hk
    have HR := hid ((HRR.out (7, 0, 0, 0)).2 (by rw [if_neg hz, if_pos hkf]))
    have HK := hid hkf
    clear hz hk hkf
    go_enter Try.func55, Try.ntmps55
    go_wp2_with fail
    refine (byte_any b _ _ hc hf).mono ?_; rintro e w1 ⟨rfl, hc1, hg1⟩
    rw [HT.out] at hc1
    rw [HB.out]
    go_wp2_with fail
    refine (err_any b _ _ hc1).mono ?_; rintro e w2 ⟨rfl, rfl⟩
    go_wp2_with fail
    refine (is_any (N % 16) _ (by omega) (by omega)).mono ?_; rintro e w2 ⟨rfl, rfl⟩
    rw [HK.out]
    go_wp2_with fail
    refine (fail_any b _ 7 _ hc1).mono ?_; rintro e w3 ⟨rfl, hc3, hg3⟩
    rw [fail_ok _ HC.out] at hc3
    go_wp2_with fail
    go_ret2
    exact FPost.mk_ok (c' := { c with pos := c.pos + 1, code := 7 }) HC.out HR.out rfl rfl ⟨hf1.le1, hf1.le2, hf1.le3⟩ rfl (fun h => absurd h (by decide)) hc3 (only_trans hg1 hg3)

  have HK := hid hk
  have hnk : ¬ isK (N % 16) = false := by rw [hk]; simp
  by_cases hst : 0 < N / 16
  · by_cases hin : inR (last + N / 16) = true
    · have HR := hid ((HRR.out (0, 1, last + N / 16, N % 16)).2 (by rw [if_neg hz, if_neg hnk, if_pos hst, if_pos hin]))
      obtain ⟨r0, r1⟩ : -32768 ≤ last + N / 16 ∧ last + N / 16 ≤ 32767 := by simpa [inR] using hin
      clear hz hk hnk hin
      go_enter Try.func55, Try.ntmps55
      go_wp2_with fail
      refine (byte_any b _ _ hc hf).mono ?_; rintro e w1 ⟨rfl, hc1, hg1⟩
      rw [HT.out] at hc1
      rw [HB.out]
      go_wp2_with fail
      refine (err_any b _ _ hc1).mono ?_; rintro e w2 ⟨rfl, rfl⟩
      go_wp2_with fail
      refine (is_any (N % 16) _ (by omega) (by omega)).mono ?_; rintro e w2 ⟨rfl, rfl⟩
      rw [HK.out]
      go_wp2_with fail
      refine (err_any b _ _ hc1).mono ?_; rintro e w2 ⟨rfl, rfl⟩
      go_wp2_with fail
      refine (err_any b _ _ hc1).mono ?_; rintro e w2 ⟨rfl, rfl⟩
      go_wp2_with fail
      go_ret2
      exact FPost.mk_ok (c' := { c with pos := c.pos + 1 }) HC.out HR.out rfl rfl hf1 HC.out (fun _ => rfl) hc1 hg1

    · have HR := hid ((HRR.out (4, 0, 0, 0)).2 (by rw [if_neg hz, if_neg hnk, if_pos hst, if_neg hin]))
      have hout : last + N / 16 < -32768 ∨ 32767 < last + N / 16 := by
        simp only [inR, decide_eq_true_eq] at hin; omega
      clear hz hk hnk hin
      rcases hout with ho | ho
      all_goals
        go_enter Try.func55, Try.ntmps55
        go_wp2_with fail
        refine (byte_any b _ _ hc hf).mono ?_; rintro e w1 ⟨rfl, hc1, hg1⟩
        rw [HT.out] at hc1
        rw [HB.out]
        go_wp2_with fail
        refine (err_any b _ _ hc1).mono ?_; rintro e w2 ⟨rfl, rfl⟩
        go_wp2_with fail
        refine (is_any (N % 16) _ (by omega) (by omega)).mono ?_; rintro e w2 ⟨rfl, rfl⟩
        rw [HK.out]
        go_wp2_with fail
        refine (err_any b _ _ hc1).mono ?_; rintro e w2 ⟨rfl, rfl⟩
        go_wp2_with fail
        refine (fail_any b _ 4 _ hc1).mono ?_; rintro e w3 ⟨rfl, hc3, hg3⟩
        rw [fail_ok _ HC.out] at hc3
        go_wp2_with fail
        refine (err_any b _ _ hc3).mono ?_; rintro e w4 ⟨rfl, rfl⟩
        go_wp2_with fail
        go_ret2
        exact FPost.mk_ok (c' := { c with pos := c.pos + 1, code := 4 }) HC.out HR.out rfl rfl ⟨hf1.le1, hf1.le2, hf1.le3⟩ rfl (fun h => absurd h (by decide)) hc3 (only_trans hg1 hg3)

  · have hst0 : ¬ 0 < N / 16 := hst
    generalize hA : ({ c with pos := c.pos + 1 } : Cu).ahead = A at HRR
    have HA := hid hA
    by_cases hv : vcode A = 0
    · obtain ⟨u0, u1⟩ := vnum_bd A
      generalize hU : vnum A = U at u0 u1 HRR
      have HU := hid ((congrArg vnum hA).trans hU)
      have HV := hid ((congrArg vcode hA).trans hv)
      have HL := hid (congrArg (vlen 10) hA)
      generalize hZ : zagV U = Z at HRR
      have HZ := hid hZ
      by_cases hin : inR Z = true
      · have HR := hid ((HRR.out (0, 1 + vlen 10 A, Z, N % 16)).2 (by rw [if_neg hz, if_neg hnk, if_neg hst, if_pos hv, if_pos hin]))
        obtain ⟨r0, r1⟩ : -32768 ≤ Z ∧ Z ≤ 32767 := by simpa [inR] using hin
        clear hz hk hnk hin hv hU hZ hA HRR
        go_enter Try.func55, Try.ntmps55
        go_wp2_with fail
        refine (byte_any b _ _ hc hf).mono ?_; rintro e w1 ⟨rfl, hc1, hg1⟩
        rw [HT.out] at hc1
        rw [HB.out]
        go_wp2_with fail
        refine (err_any b _ _ hc1).mono ?_; rintro e w2 ⟨rfl, rfl⟩
        go_wp2_with fail
        refine (is_any (N % 16) _ (by omega) (by omega)).mono ?_; rintro e w2 ⟨rfl, rfl⟩
        rw [HK.out]
        go_wp2_with fail
        refine (vread_any b _ _ hc1 hf1).mono ?_; rintro e w3 ⟨c2, u, rfl, hv3, hc3, hg3⟩
        obtain ⟨e1, e2, e3⟩ := hv3.good HC.out
        obtain rfl := e3 HV.out
        rw [e2, HU.out]
        have hf3 := hv3.fit
        clear e1 e2 e3 hv3
        go_wp2_with fail
        refine (zag_any U _ u0 u1).mono ?_; rintro e w4 ⟨rfl, rfl⟩
        rw [HZ.out]
        go_wp2_with fail
        refine (err_any b _ _ hc3).mono ?_; rintro e w4 ⟨rfl, rfl⟩
        go_wp2_with fail
        refine (err_any b _ _ hc3).mono ?_; rintro e w4 ⟨rfl, rfl⟩
        go_wp2_with fail
        go_ret2
        exact FPost.mk_ok (c' := { c with pos := c.pos + 1 + vlen 10 ({ c with pos := c.pos + 1 } : Cu).ahead }) HC.out HR.out rfl rfl hf3 HC.out (fun _ => by rw [HL.out, Nat.add_assoc]) hc3 (only_trans hg1 hg3)

      · have HR := hid ((HRR.out (4, 0, 0, 0)).2 (by rw [if_neg hz, if_neg hnk, if_neg hst, if_pos hv, if_neg hin]))
        have hout : Z < -32768 ∨ 32767 < Z := by
          simp only [inR, decide_eq_true_eq] at hin; omega
        clear hz hk hnk hin hv hU hZ hA HRR
        rcases hout with ho | ho
        all_goals
          go_enter Try.func55, Try.ntmps55
          go_wp2_with fail
          refine (byte_any b _ _ hc hf).mono ?_; rintro e w1 ⟨rfl, hc1, hg1⟩
          rw [HT.out] at hc1
          rw [HB.out]
          go_wp2_with fail
          refine (err_any b _ _ hc1).mono ?_; rintro e w2 ⟨rfl, rfl⟩
          go_wp2_with fail
          refine (is_any (N % 16) _ (by omega) (by omega)).mono ?_; rintro e w2 ⟨rfl, rfl⟩
          rw [HK.out]
          go_wp2_with fail
          refine (vread_any b _ _ hc1 hf1).mono ?_; rintro e w3 ⟨c2, u, rfl, hv3, hc3, hg3⟩
          obtain ⟨e1, e2, e3⟩ := hv3.good HC.out
          obtain rfl := e3 HV.out
          rw [e2, HU.out]
          have hf3 := hv3.fit
          clear e1 e2 e3 hv3
          go_wp2_with fail
          refine (zag_any U _ u0 u1).mono ?_; rintro e w4 ⟨rfl, rfl⟩
          rw [HZ.out]
          go_wp2_with fail
          refine (err_any b _ _ hc3).mono ?_; rintro e w4 ⟨rfl, rfl⟩
          go_wp2_with fail
          refine (fail_any b _ 4 _ hc3).mono ?_; rintro e w5 ⟨rfl, hc5, hg5⟩
          rw [fail_at _ HC.out] at hc5
          go_wp2_with fail
          refine (err_any b _ _ hc5).mono ?_; rintro e w6 ⟨rfl, rfl⟩
          go_wp2_with fail
          go_ret2
          exact FPost.mk_ok (c' := { c with pos := c.pos + 1 + vlen 10 ({ c with pos := c.pos + 1 } : Cu).ahead, code := 4 }) HC.out HR.out rfl rfl ⟨hf3.le1, hf3.le2, hf3.le3⟩ rfl (fun h => absurd h (by decide)) hc5 (only_trans (only_trans hg1 hg3) hg5)

    · have HR := hid ((HRR.out (vcode A, 0, 0, 0)).2 (by rw [if_neg hz, if_neg hnk, if_neg hst, if_neg hv]))
      have HVA := hid (congrArg vcode hA)
      have v1 : (vcode A != 0) = true := by simpa using hv
      have v2 : (vcode A == 0) = false := by simpa using hv
      have HV := hid hv
      clear hz hk hnk hv hA HRR
      go_enter Try.func55, Try.ntmps55
      go_wp2_with fail
      refine (byte_any b _ _ hc hf).mono ?_; rintro e w1 ⟨rfl, hc1, hg1⟩
      rw [HT.out] at hc1
      rw [HB.out]
      go_wp2_with fail
      refine (err_any b _ _ hc1).mono ?_; rintro e w2 ⟨rfl, rfl⟩
      go_wp2_with fail
      refine (is_any (N % 16) _ (by omega) (by omega)).mono ?_; rintro e w2 ⟨rfl, rfl⟩
      rw [HK.out]
      go_wp2_with fail
      refine (vread_any b _ _ hc1 hf1).mono ?_; rintro e w3 ⟨c2, u, rfl, hv3, hc3, hg3⟩
      obtain ⟨e1, e2, e3⟩ := hv3.good HC.out
      have hf3 := hv3.fit
      rw [HVA.out] at e1
      have E1 := hid e1
      have HS := hid hv3.s
      have HE := hid hv3.en
      have huz : u = 0 := by rw [e2, vnum, if_neg (by rw [HVA.out]; exact HV.out)]
      subst huz
      clear e1 e2 e3 hv3
      go_wp2_with fail
      refine (zag_any 0 _ (by omega) (by omega)).mono ?_; rintro e w4 ⟨rfl, rfl⟩
      go_wp2_with fail
      refine (err_any b _ _ hc3).mono ?_; rintro e w4 ⟨rfl, rfl⟩
      rw [E1.out]
      go_wp2_with fail
      refine (err_any b _ _ hc3).mono ?_; rintro e w4 ⟨rfl, rfl⟩
      rw [E1.out]
      go_wp2_with fail
      go_ret2
      exact FPost.mk_ok HC.out HR.out HS.out HE.out hf3 E1.out (fun h => absurd h HV.out) hc3 (only_trans hg1 hg3)
end Go.Proofs.Ytdjbgojdkaipfaa
