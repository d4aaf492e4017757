/-
  Walks of package chead: sizes, and the heads of lists and maps.
-/
import Derived.Test.YtdjbgojdkaipfaaHead
namespace Go.Proofs.Ytdjbgojdkaipfaa
open Go.RowKit

def SPost (b : Nat) (c : Cu) (w : World) (e : Ending) (w' : World) : Prop :=
  ∃ c' u, e = .returned (.int .i64 u) ∧ Rd c c' (sizeR c.ahead).1 (sizeR c.ahead).2.1 ∧ (c.code ≠ 0 → u = 0) ∧
    (c.code = 0 → u = (sizeR c.ahead).2.2) ∧ CurAt w' b c' ∧ w.grownBy w' (some b)
theorem SPost.mk_bad {b : Nat} {c : Cu} {w w' : World} (h : c.code ≠ 0) (hf : c.fit) (hc : CurAt w' b c) (hg : w.grownBy w' (some b)) : SPost b c w (.returned (.int .i64 0)) w' :=
  ⟨c, 0, rfl, Rd.refl_bad h hf _ _, fun _ => rfl, fun h0 => absurd h0 h, hc, hg⟩
theorem SPost.mk_ok {b : Nat} {c c' : Cu} {w w' : World} {K : Int} {n : Nat} {u : Int} (h : c.code = 0) (hr : sizeR c.ahead = (K, n, u)) (hs : c'.s = c.s) (he : c'.en = c.en) (hf : c'.fit) (hk : c'.code = K)
    (hp : K = 0 → c' = { c with pos := c.pos + n }) (hc : CurAt w' b c') (hg : w.grownBy w' (some b)) : SPost b c w (.returned (.int .i64 u)) w' :=
  ⟨c', u, rfl, ⟨hs, he, hf, fun h0 => absurd h h0, fun _ => ⟨by rw [hr]; exact hk, fun h0 => by rw [hr] at h0 ⊢; exact hp h0⟩⟩, fun h0 => absurd h h0, fun _ => by rw [hr], hc, hg⟩
set_option maxRecDepth 100000 in
set_option maxHeartbeats 4000000 in
theorem size_any (b : Nat) (c : Cu) (w : World) (hc : CurAt w b c) (hf : c.fit) :
    Calls Try.prog 125 #[ptr b] w fun e w' => SPost b c w e w' := by
  by_cases hc0 : c.code = 0
  case neg =>
    have hne : (c.code != 0) = true := by simpa using hc0
    have hne2 : (c.code == 0) = false := by simpa using hc0
    have HC := hid hc0
    clear hc0
    go_enter Try.func125, Try.ntmps125
    go_wp2_with fail
    refine (vread_any b _ _ hc hf).mono ?_; rintro e w1 ⟨c2, u, rfl, hv3, hc1, hg1⟩
    obtain ⟨rfl, rfl⟩ := hv3.bad HC.out
    clear hv3
    go_wp2_with fail
    refine (err_any b _ _ hc1).mono ?_; rintro e w2 ⟨rfl, rfl⟩
    go_wp2_with fail
    refine (err_any b _ _ hc1).mono ?_; rintro e w2 ⟨rfl, rfl⟩
    go_wp2_with fail
    go_ret
    exact SPost.mk_bad HC.out hf hc1 hg1
  by_cases hv : vcode c.ahead = 0
  case neg =>
    have HR := hid (show sizeR c.ahead = (vcode c.ahead, 0, 0) by rw [sizeR, if_neg hv])
    have v1 : (vcode c.ahead != 0) = true := by simpa using hv
    have v2 : (vcode c.ahead == 0) = false := by simpa using hv
    have HV := hid hv
    have HC := hid hc0
    clear hv hc0
    go_enter Try.func125, Try.ntmps125
    go_wp2_with fail
    refine (vread_any b _ _ hc hf).mono ?_; rintro e w1 ⟨c2, u, rfl, hv3, hc1, hg1⟩
    obtain ⟨e1, e2, e3⟩ := hv3.good HC.out
    have hf3 := hv3.fit
    have E1 := hid e1
    have HS := hid hv3.s
    have HE := hid hv3.en
    have huz : u = 0 := by rw [e2, vnum, if_neg HV.out]
    subst huz
    clear e1 e2 e3 hv3
    go_wp2_with fail
    refine (err_any b _ _ hc1).mono ?_; rintro e w2 ⟨rfl, rfl⟩
    rw [E1.out]
    go_wp2_with fail
    refine (err_any b _ _ hc1).mono ?_; rintro e w2 ⟨rfl, rfl⟩
    rw [E1.out]
    go_wp2_with fail
    go_ret
    exact SPost.mk_ok HC.out HR.out HS.out HE.out hf3 E1.out (fun h => absurd h HV.out) hc1 hg1
  obtain ⟨u0, u1⟩ := vnum_bd c.ahead
  have HV := hid hv
  have HC := hid hc0
  have HR0 := hid (show ∀ r, (sizeR c.ahead = r ↔ (if vnum c.ahead ≤ 2147483647 then (0, vlen 10 c.ahead, vnum c.ahead) else (4, 0, 0)) = r) from fun r => by rw [sizeR, if_pos hv])
  generalize hU : vnum c.ahead = U at u0 u1 HR0
  have HU := hid hU
  clear hv hc0 hU
  by_cases hle : U ≤ 2147483647
  · have HR := hid ((HR0.out _).2 (if_pos hle))
    go_enter Try.func125, Try.ntmps125
    go_wp2_with fail
    refine (vread_any b _ _ hc hf).mono ?_; rintro e w1 ⟨c2, u, rfl, hv3, hc1, hg1⟩
    obtain ⟨e1, e2, e3⟩ := hv3.good HC.out
    obtain rfl := e3 HV.out
    rw [e2, HU.out]
    have hf3 := hv3.fit
    have C0 := HC.out
    clear e1 e2 e3 hv3
    go_wp2_with fail
    refine (err_any b _ _ hc1).mono ?_; rintro e w2 ⟨rfl, rfl⟩
    go_wp2_with fail
    refine (err_any b _ _ hc1).mono ?_; rintro e w2 ⟨rfl, rfl⟩
    go_wp2_with fail
    go_ret
    exact SPost.mk_ok (c' := { c with pos := c.pos + vlen 10 c.ahead }) HC.out HR.out rfl rfl hf3 HC.out (fun _ => rfl) hc1 hg1
  · have HR := hid ((HR0.out _).2 (if_neg hle))
    have hgt : 2147483647 < U := by omega
    go_enter Try.func125, Try.ntmps125
    go_wp2_with fail
    refine (vread_any b _ _ hc hf).mono ?_; rintro e w1 ⟨c2, u, rfl, hv3, hc1, hg1⟩
    obtain ⟨e1, e2, e3⟩ := hv3.good HC.out
    obtain rfl := e3 HV.out
    rw [e2, HU.out]
    have hf3 := hv3.fit
    have C0 := HC.out
    clear e1 e2 e3 hv3
    go_wp2_with fail
    refine (err_any b _ _ hc1).mono ?_; rintro e w2 ⟨rfl, rfl⟩
    go_wp2_with fail
    refine (fail_any b _ 4 _ hc1).mono ?_; rintro e w5 ⟨rfl, hc5, hg5⟩
    rw [fail_at _ HC.out] at hc5
    go_wp2_with fail
    refine (err_any b _ _ hc5).mono ?_; rintro e w6 ⟨rfl, rfl⟩
    go_wp2_with fail
    go_ret
    exact SPost.mk_ok (c' := { c with pos := c.pos + vlen 10 c.ahead, code := 4 }) HC.out HR.out rfl rfl ⟨hf3.le1, hf3.le2, hf3.le3⟩ rfl (fun h => absurd h (by decide)) hc5 (only_trans hg1 hg5)
def listR : List UInt8 → Int × Nat × Int × Int
  | [] => (1, 0, 0, 0)
  | b :: r =>
    if isK (bi b % 16) = false then (7, 0, 0, 0)
    else if bi b / 16 = 15 then (if (sizeR r).1 = 0 then (0, 1 + (sizeR r).2.1, (sizeR r).2.2, bi b % 16) else ((sizeR r).1, 0, 0, 0))
    else (0, 1, bi b / 16, bi b % 16)
/-- The post of a reading of a number and a kind: R is what the bytes ahead say. -/
def LPost (R : Int × Nat × Int × Int) (b : Nat) (c : Cu) (w : World) (e : Ending) (w' : World) : Prop :=
  ∃ c' id kind, e = .returned (.tuple #[.int .i64 id, .int .u8 kind]) ∧ Rd c c' R.1 R.2.1 ∧ (c.code ≠ 0 → id = 0 ∧ kind = 0) ∧
    (c.code = 0 → id = R.2.2.1 ∧ kind = R.2.2.2) ∧ CurAt w' b c' ∧ w.grownBy w' (some b)
theorem LPost.mk_bad {R : Int × Nat × Int × Int} {b : Nat} {c : Cu} {w w' : World} (h : c.code ≠ 0) (hf : c.fit) (hc : CurAt w' b c) (hg : w.grownBy w' (some b)) : LPost R b c w (.returned (.tuple #[.int .i64 0, .int .u8 0])) w' :=
  ⟨c, 0, 0, rfl, Rd.refl_bad h hf _ _, fun _ => ⟨rfl, rfl⟩, fun h0 => absurd h0 h, hc, hg⟩
theorem LPost.mk_ok {R : Int × Nat × Int × Int} {b : Nat} {c c' : Cu} {w w' : World} {K : Int} {n : Nat} {id kind : Int} (h : c.code = 0) (hr : R = (K, n, id, kind)) (hs : c'.s = c.s) (he : c'.en = c.en) (hf : c'.fit) (hk : c'.code = K)
    (hp : K = 0 → c' = { c with pos := c.pos + n }) (hc : CurAt w' b c') (hg : w.grownBy w' (some b)) : LPost R b c w (.returned (.tuple #[.int .i64 id, .int .u8 kind])) w' :=
  ⟨c', id, kind, rfl, ⟨hs, he, hf, fun h0 => absurd h h0, fun _ => ⟨by rw [hr]; exact hk, fun h0 => by rw [hr] at h0 ⊢; exact hp h0⟩⟩, fun h0 => absurd h h0, fun _ => by rw [hr]; exact ⟨rfl, rfl⟩, hc, hg⟩
theorem sizeR_bd (a : List UInt8) : 0 ≤ (sizeR a).2.2 ∧ (sizeR a).2.2 ≤ 2147483647 ∧ ((sizeR a).1 ≠ 0 → (sizeR a).2.2 = 0) := by
  have h0 := (vnum_bd a).1
  unfold sizeR
  split
  · split
    · exact ⟨h0, by assumption, fun h => absurd rfl h⟩
    · exact ⟨Int.le_refl 0, by show (0 : Int) ≤ 2147483647; decide, fun _ => rfl⟩
  · exact ⟨Int.le_refl 0, by show (0 : Int) ≤ 2147483647; decide, fun _ => rfl⟩
set_option maxRecDepth 100000 in
set_option maxHeartbeats 4000000 in
theorem listhead_any (b : Nat) (c : Cu) (w : World) (hc : CurAt w b c) (hf : c.fit) :
    Calls Try.prog 69 #[ptr b] w fun e w' => LPost (listR c.ahead) b c w e w' := by
  by_cases hc0 : c.code = 0
  case neg =>
    have hne : (c.code != 0) = true := by simpa using hc0
    have ht := hid (Cu.take_bad hc0 1)
    have HC := hid hc0
    clear hc0
    go_enter Try.func69, Try.ntmps69
    go_wp2_with fail
    refine (byte_any b _ _ hc hf).mono ?_; rintro e w1 ⟨rfl, hc1, hg1⟩
    rw [ht.out] at hc1
    go_wp2_with fail
    refine (err_any b _ _ hc1).mono ?_; rintro e w2 ⟨rfl, rfl⟩
    go_wp2_with fail
    go_ret2
    exact LPost.mk_bad HC.out hf hc1 hg1
  by_cases hlt : c.pos < c.en
  case neg =>
    obtain ⟨ht, hb⟩ := Cu.take_cut hc0 hlt
    have HR := hid (show listR c.ahead = (1, 0, 0, 0) by rw [ahead_nil hlt]; rfl)
    have HT := hid ht
    have HB := hid hb
    have HC := hid hc0
    have hp := hf.le1
    clear ht hb hc0
    go_enter Try.func69, Try.ntmps69
    go_wp2_with fail
    refine (byte_any b _ _ hc hf).mono ?_; rintro e w1 ⟨rfl, hc1, hg1⟩
    rw [HT.out] at hc1
    go_wp2_with fail
    refine (err_any b _ _ hc1).mono ?_; rintro e w2 ⟨rfl, rfl⟩
    go_wp2_with fail
    go_ret2
    exact LPost.mk_ok (c' := { c with code := 1 }) HC.out HR.out rfl rfl ⟨hf.le1, hf.le2, hf.le3⟩ rfl (fun h => absurd h (by decide)) hc1 hg1
  obtain ⟨ht, hb⟩ := Cu.take_ok hc0 hlt
  have hf1 : ({ c with pos := c.pos + 1 } : Cu).fit := ⟨hlt, hf.le2, hf.le3⟩
  have hah := ahead_cons hlt hf
  have n1 := byteAt_lo c.s c.pos
  have n2 := byteAt_hi c.s c.pos
  have hR : ∀ r, listR c.ahead = r ↔ listR (UInt8.ofNat (byteAt c.s c.pos).toNat :: ({ c with pos := c.pos + 1 } : Cu).ahead) = r := fun r => by rw [← hah]
  simp only [listR, bi_ofByteAt] at hR
  generalize hN : byteAt c.s c.pos = N at n1 n2 hb hR
  have HRR := hid hR
  have HT := hid ht
  have HB := hid hb
  have HC := hid hc0
  have hcode : (c.code != 0) = false := by rw [hc0]; rfl
  have hcode2 : (c.code == 0) = true := by rw [hc0]; rfl
  have hand := u8_and15 N n1 (by omega)
  have k0 : 0 ≤ N % 16 := by omega
  have k1 : N % 16 ≤ 255 := by omega
  clear ht hb hc0 hah hN hR
  by_cases hk : isK (N % 16) = true
  case neg =>
    have hkf : isK (N % 16) = false := by simpa using hk
    have HR := hid ((HRR.out (7, 0, 0, 0)).2 (by rw [if_pos hkf]))
    have HK := hid hkf
    clear hk hkf
    go_enter Try.func69, Try.ntmps69
    go_wp2_with fail
    refine (byte_any b _ _ hc hf).mono ?_; rintro e w1 ⟨rfl, hc1, hg1⟩
    rw [HT.out] at hc1
    rw [HB.out]
    go_wp2_with fail
    refine (err_any b _ _ hc1).mono ?_; rintro e w2 ⟨rfl, rfl⟩
    go_wp2_with fail
    refine (is_any (N % 16) _ (by omega) (by omega)).mono ?_; rintro e w2 ⟨rfl, rfl⟩
    rw [HK.out]
    go_wp2_with fail
    refine (fail_any b _ 7 _ hc1).mono ?_; rintro e w3 ⟨rfl, hc3, hg3⟩
    rw [fail_ok _ HC.out] at hc3
    go_wp2_with fail
    go_ret2
    exact LPost.mk_ok (c' := { c with pos := c.pos + 1, code := 7 }) HC.out HR.out rfl rfl ⟨hf1.le1, hf1.le2, hf1.le3⟩ rfl (fun h => absurd h (by decide)) hc3 (only_trans hg1 hg3)
  have HK := hid hk
  have hnk : ¬ isK (N % 16) = false := by rw [hk]; simp
  by_cases h15 : N / 16 = 15
  case neg =>
    have HR := hid ((HRR.out (0, 1, N / 16, N % 16)).2 (by rw [if_neg hnk, if_neg h15]))
    have hb15 : (N / 16 == 15) = false := by simpa using h15
    clear hk hnk
    go_enter Try.func69, Try.ntmps69
    go_wp2_with fail
    refine (byte_any b _ _ hc hf).mono ?_; rintro e w1 ⟨rfl, hc1, hg1⟩
    rw [HT.out] at hc1
    rw [HB.out]
    go_wp2_with fail
    refine (err_any b _ _ hc1).mono ?_; rintro e w2 ⟨rfl, rfl⟩
    go_wp2_with fail
    refine (is_any (N % 16) _ (by omega) (by omega)).mono ?_; rintro e w2 ⟨rfl, rfl⟩
    rw [HK.out]
    go_wp2_with fail
    refine (err_any b _ _ hc1).mono ?_; rintro e w2 ⟨rfl, rfl⟩
    go_wp2_with fail
    go_ret2
    exact LPost.mk_ok (c' := { c with pos := c.pos + 1 }) HC.out HR.out rfl rfl hf1 HC.out (fun _ => rfl) hc1 hg1
  have hb15 : (N / 16 == 15) = true := by simpa using h15
  by_cases hv : (sizeR ({ c with pos := c.pos + 1 } : Cu).ahead).1 = 0
  · have HR := hid ((HRR.out (0, 1 + (sizeR ({ c with pos := c.pos + 1 } : Cu).ahead).2.1, (sizeR ({ c with pos := c.pos + 1 } : Cu).ahead).2.2, N % 16)).2 (by rw [if_neg hnk, if_pos h15, if_pos hv]))
    have HV := hid hv
    clear hk hnk hv HRR
    go_enter Try.func69, Try.ntmps69
    go_wp2_with fail
    refine (byte_any b _ _ hc hf).mono ?_; rintro e w1 ⟨rfl, hc1, hg1⟩
    rw [HT.out] at hc1
    rw [HB.out]
    go_wp2_with fail
    refine (err_any b _ _ hc1).mono ?_; rintro e w2 ⟨rfl, rfl⟩
    go_wp2_with fail
    refine (is_any (N % 16) _ (by omega) (by omega)).mono ?_; rintro e w2 ⟨rfl, rfl⟩
    rw [HK.out]
    go_wp2_with fail
    refine (size_any b _ _ hc1 hf1).mono ?_; rintro e w3 ⟨c2, u, rfl, hr3, _, hu3, hc3, hg3⟩
    obtain ⟨e1, e3⟩ := hr3.good HC.out
    obtain rfl := e3 HV.out
    obtain rfl := hu3 HC.out
    have hf3 := hr3.fit
    clear e1 e3 hr3 hu3
    go_wp2_with fail
    refine (err_any b _ _ hc3).mono ?_; rintro e w4 ⟨rfl, rfl⟩
    go_wp2_with fail
    go_ret2
    exact LPost.mk_ok (c' := { c with pos := c.pos + 1 + (sizeR ({ c with pos := c.pos + 1 } : Cu).ahead).2.1 }) HC.out HR.out rfl rfl hf3 HC.out (fun _ => by rw [Nat.add_assoc]) hc3 (only_trans hg1 hg3)
  · have HR := hid ((HRR.out ((sizeR ({ c with pos := c.pos + 1 } : Cu).ahead).1, 0, 0, 0)).2 (by rw [if_neg hnk, if_pos h15, if_neg hv]))
    have v1 : ((sizeR ({ c with pos := c.pos + 1 } : Cu).ahead).1 != 0) = true := by simpa using hv
    have HV := hid hv
    clear hk hnk hv HRR
    go_enter Try.func69, Try.ntmps69
    go_wp2_with fail
    refine (byte_any b _ _ hc hf).mono ?_; rintro e w1 ⟨rfl, hc1, hg1⟩
    rw [HT.out] at hc1
    rw [HB.out]
    go_wp2_with fail
    refine (err_any b _ _ hc1).mono ?_; rintro e w2 ⟨rfl, rfl⟩
    go_wp2_with fail
    refine (is_any (N % 16) _ (by omega) (by omega)).mono ?_; rintro e w2 ⟨rfl, rfl⟩
    rw [HK.out]
    go_wp2_with fail
    refine (size_any b _ _ hc1 hf1).mono ?_; rintro e w3 ⟨c2, u, rfl, hr3, _, hu3, hc3, hg3⟩
    obtain ⟨e1, _⟩ := hr3.good HC.out
    have E1 := hid e1
    have HS := hid hr3.s
    have HE := hid hr3.en
    have hf3 := hr3.fit
    clear e1 hr3 hu3
    go_wp2_with fail
    refine (err_any b _ _ hc3).mono ?_; rintro e w4 ⟨rfl, rfl⟩
    rw [E1.out]
    go_wp2_with fail
    go_ret2
    exact LPost.mk_ok HC.out HR.out HS.out HE.out hf3 E1.out (fun h => absurd h HV.out) hc3 (only_trans hg1 hg3)
end Go.Proofs.Ytdjbgojdkaipfaa
