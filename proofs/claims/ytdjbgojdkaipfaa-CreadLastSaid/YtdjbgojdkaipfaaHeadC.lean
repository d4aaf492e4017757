/-
  Walks of package chead: the head of a map; sameness.
-/
import Derived.Test.YtdjbgojdkaipfaaHeadB
namespace Go.Proofs.Ytdjbgojdkaipfaa
open Go.RowKit

theorem results_tmp3 {fn : Func} {t u v : Tmp} (h : fn.results = #[.tmp t, .tmp u, .tmp v]) (tmps : Array Value) (P : Program) (w : World) :
    (results fn tmps).run P w = .ok (.tuple #[tmps.getD t undef, tmps.getD u undef, tmps.getD v undef]) w := by
  simp [results, h]
def mapR2 (K : Nat) (u : Int) : List UInt8 → Int × Nat × Int × Int × Int
  | [] => (1, 0, 0, 0, 0)
  | b :: _ => if isK (bi b / 16) = true ∧ isK (bi b % 16) = true then (0, K + 1, u, bi b / 16, bi b % 16) else (7, 0, 0, 0, 0)
def mapR (a : List UInt8) : Int × Nat × Int × Int × Int :=
  if (sizeR a).1 = 0 then (if (sizeR a).2.2 = 0 then (0, (sizeR a).2.1, 0, 0, 0) else mapR2 (sizeR a).2.1 (sizeR a).2.2 (a.drop (sizeR a).2.1)) else ((sizeR a).1, 0, 0, 0, 0)
def MPost (R : Int × Nat × Int × Int × Int) (b : Nat) (c : Cu) (w : World) (e : Ending) (w' : World) : Prop :=
  ∃ c' n k v, e = .returned (.tuple #[.int .i64 n, .int .u8 k, .int .u8 v]) ∧ Rd c c' R.1 R.2.1 ∧ (c.code ≠ 0 → n = 0 ∧ k = 0 ∧ v = 0) ∧
    (c.code = 0 → n = R.2.2.1 ∧ k = R.2.2.2.1 ∧ v = R.2.2.2.2) ∧ CurAt w' b c' ∧ w.grownBy w' (some b)
theorem MPost.mk_bad {R : Int × Nat × Int × Int × Int} {b : Nat} {c : Cu} {w w' : World} (h : c.code ≠ 0) (hf : c.fit) (hc : CurAt w' b c) (hg : w.grownBy w' (some b)) : MPost R b c w (.returned (.tuple #[.int .i64 0, .int .u8 0, .int .u8 0])) w' :=
  ⟨c, 0, 0, 0, rfl, Rd.refl_bad h hf _ _, fun _ => ⟨rfl, rfl, rfl⟩, fun h0 => absurd h0 h, hc, hg⟩
theorem MPost.mk_ok {R : Int × Nat × Int × Int × Int} {b : Nat} {c c' : Cu} {w w' : World} {K : Int} {n : Nat} {u k v : Int} (h : c.code = 0) (hr : R = (K, n, u, k, v)) (hs : c'.s = c.s) (he : c'.en = c.en) (hf : c'.fit) (hk : c'.code = K)
    (hp : K = 0 → c' = { c with pos := c.pos + n }) (hc : CurAt w' b c') (hg : w.grownBy w' (some b)) : MPost R b c w (.returned (.tuple #[.int .i64 u, .int .u8 k, .int .u8 v])) w' :=
  ⟨c', u, k, v, rfl, ⟨hs, he, hf, fun h0 => absurd h h0, fun _ => ⟨by rw [hr]; exact hk, fun h0 => by rw [hr] at h0 ⊢; exact hp h0⟩⟩, fun h0 => absurd h h0, fun _ => by rw [hr]; exact ⟨rfl, rfl, rfl⟩, hc, hg⟩
theorem ahead_drop (c : Cu) (n : Nat) : c.ahead.drop n = ({ c with pos := c.pos + n } : Cu).ahead := by
  show ((c.s.take c.en).drop c.pos).drop n = (c.s.take c.en).drop (c.pos + n)
  rw [List.drop_drop]
set_option maxRecDepth 100000 in
set_option maxHeartbeats 4000000 in
theorem maphead_any (b : Nat) (c : Cu) (w : World) (hc : CurAt w b c) (hf : c.fit) :
    Calls Try.prog 71 #[ptr b] w fun e w' => MPost (mapR c.ahead) b c w e w' := by
  by_cases hc0 : c.code = 0
  case neg =>
    have HC := hid hc0
    clear hc0
    go_enter Try.func71, Try.ntmps71
    go_wp2_with fail
    refine (size_any b _ _ hc hf).mono ?_; rintro e w1 ⟨c2, u, rfl, hr1, hu1, _, hc1, hg1⟩
    obtain rfl := hu1 HC.out
    obtain rfl := hr1.bad HC.out
    clear hr1 hu1
    go_wp2_with fail
    refine bodyPost_ret (results_tmp3 rfl _ _ _) rfl ?_
    exact MPost.mk_bad HC.out hf hc1 hg1
  have HC := hid hc0
  obtain ⟨u0, u1, uz⟩ := sizeR_bd c.ahead
  by_cases hv : (sizeR c.ahead).1 = 0
  case neg =>
    have HR := hid (show mapR c.ahead = ((sizeR c.ahead).1, 0, 0, 0, 0) by rw [mapR, if_neg hv])
    have HU := hid (uz hv)
    have HV := hid hv
    clear hc0 hv u0 u1 uz
    go_enter Try.func71, Try.ntmps71
    go_wp2_with fail
    refine (size_any b _ _ hc hf).mono ?_; rintro e w1 ⟨c2, u, rfl, hr1, _, hu1, hc1, hg1⟩
    obtain ⟨e1, _⟩ := hr1.good HC.out
    have huz := (hu1 HC.out).trans HU.out
    subst huz
    have E1 := hid e1
    have HS := hid hr1.s
    have HE := hid hr1.en
    have hf3 := hr1.fit
    clear e1 hr1 hu1
    go_wp2_with fail
    refine bodyPost_ret (results_tmp3 rfl _ _ _) rfl ?_
    exact MPost.mk_ok HC.out HR.out HS.out HE.out hf3 E1.out (fun h => absurd h HV.out) hc1 hg1
  by_cases hz : (sizeR c.ahead).2.2 = 0
  · have HR := hid (show mapR c.ahead = (0, (sizeR c.ahead).2.1, 0, 0, 0) by rw [mapR, if_pos hv, if_pos hz])
    have HV := hid hv
    have HU := hid hz
    clear hc0 hv hz u0 u1 uz
    go_enter Try.func71, Try.ntmps71
    go_wp2_with fail
    refine (size_any b _ _ hc hf).mono ?_; rintro e w1 ⟨c2, u, rfl, hr1, _, hu1, hc1, hg1⟩
    obtain ⟨e1, e3⟩ := hr1.good HC.out
    obtain rfl := e3 HV.out
    have huz := (hu1 HC.out).trans HU.out
    subst huz
    have hf3 := hr1.fit
    clear e1 e3 hr1 hu1
    go_wp2_with fail
    refine bodyPost_ret (results_tmp3 rfl _ _ _) rfl ?_
    exact MPost.mk_ok (c' := { c with pos := c.pos + (sizeR c.ahead).2.1 }) HC.out HR.out rfl rfl hf3 HC.out (fun _ => rfl) hc1 hg1
  have HR0 := hid (show mapR c.ahead = mapR2 (sizeR c.ahead).2.1 (sizeR c.ahead).2.2 (({ c with pos := c.pos + (sizeR c.ahead).2.1 } : Cu).ahead) by rw [mapR, if_pos hv, if_neg hz, ahead_drop])
  have HV := hid hv
  have hub : ((sizeR c.ahead).2.2 == 0) = false := by simpa using hz
  clear hv hz uz
  generalize hn : (sizeR c.ahead).2.1 = n at HR0
  generalize hu : (sizeR c.ahead).2.2 = u at HR0 hub u0 u1
  have HN := hid hn
  have HU := hid hu
  clear hn hu
  -- the place behind the size
  have hcode : (c.code != 0) = false := by rw [hc0]; rfl
  have hcode2 : (c.code == 0) = true := by rw [hc0]; rfl
  by_cases hlt : c.pos + n < c.en
  case neg =>
    obtain ⟨ht, hb⟩ := Cu.take_cut (c := { c with pos := c.pos + n }) hc0 hlt
    have HR := hid (show mapR c.ahead = (1, 0, 0, 0, 0) by rw [HR0.out, ahead_nil hlt]; rfl)
    have HT := hid ht
    have HB := hid hb
    clear hc0 ht hb
    go_enter Try.func71, Try.ntmps71
    go_wp2_with fail
    refine (size_any b _ _ hc hf).mono ?_; rintro e w1 ⟨c2, u', rfl, hr1, _, hu1, hc1, hg1⟩
    obtain ⟨e1, e3⟩ := hr1.good HC.out
    obtain rfl := e3 HV.out
    rw [HN.out] at hc1
    have hf3 := hr1.fit
    rw [HN.out] at hf3
    rw [(hu1 HC.out).trans HU.out]
    clear e1 e3 hr1 hu1
    go_wp2_with fail
    refine (byte_any b _ _ hc1 hf3).mono ?_; rintro e w2 ⟨rfl, hc2, hg2⟩
    rw [HT.out] at hc2
    rw [HB.out]
    go_wp2_with fail
    refine (err_any b _ _ hc2).mono ?_; rintro e w3 ⟨rfl, rfl⟩
    go_wp2_with fail
    refine (err_any b _ _ hc2).mono ?_; rintro e w3 ⟨rfl, rfl⟩
    go_wp2_with fail
    refine bodyPost_ret (results_tmp3 rfl _ _ _) rfl ?_
    exact MPost.mk_ok (c' := { c with pos := c.pos + n, code := 1 }) HC.out HR.out rfl rfl ⟨hf3.le1, hf3.le2, hf3.le3⟩ rfl (fun h => absurd h (by decide)) hc2 (only_trans hg1 hg2)
  obtain ⟨ht, hb⟩ := Cu.take_ok (c := { c with pos := c.pos + n }) hc0 hlt
  have hf0 : ({ c with pos := c.pos + n } : Cu).fit := ⟨Nat.le_of_lt hlt, hf.le2, hf.le3⟩
  have hf1 : ({ c with pos := c.pos + n + 1 } : Cu).fit := ⟨hlt, hf.le2, hf.le3⟩
  have hah := ahead_cons (c := { c with pos := c.pos + n }) hlt hf0
  have n1 := byteAt_lo c.s (c.pos + n)
  have n2 := byteAt_hi c.s (c.pos + n)
  have hR := HR0.out
  rw [hah] at hR
  simp only [mapR2, bi_ofByteAt] at hR hb
  generalize hN : byteAt c.s (c.pos + n) = N at n1 n2 hb hR
  have hand := u8_and15 N n1 (by omega)
  have HT := hid ht
  have HB := hid hb
  clear ht hb hah hN hc0
  by_cases k1 : isK (N / 16) = true
  case neg =>
    have HR := hid (show mapR c.ahead = (7, 0, 0, 0, 0) by rw [hR, if_neg (fun h => k1 h.1)])
    have K1 := hid (show isK (N / 16) = false by simpa using k1)
    clear k1 hR
    go_enter Try.func71, Try.ntmps71
    go_wp2_with fail
    refine (size_any b _ _ hc hf).mono ?_; rintro e w1 ⟨c2, u', rfl, hr1, _, hu1, hc1, hg1⟩
    obtain ⟨e1, e3⟩ := hr1.good HC.out
    obtain rfl := e3 HV.out
    rw [HN.out] at hc1
    rw [(hu1 HC.out).trans HU.out]
    clear e1 e3 hr1 hu1
    go_wp2_with fail
    refine (byte_any b _ _ hc1 hf0).mono ?_; rintro e w2 ⟨rfl, hc2, hg2⟩
    rw [HT.out] at hc2
    rw [HB.out]
    go_wp2_with fail
    refine (err_any b _ _ hc2).mono ?_; rintro e w3 ⟨rfl, rfl⟩
    go_wp2_with fail
    refine (is_any (N / 16) _ (by omega) (by omega)).mono ?_; rintro e w3 ⟨rfl, rfl⟩
    rw [K1.out]
    go_wp2_with fail
    refine (fail_any b _ 7 _ hc2).mono ?_; rintro e w4 ⟨rfl, hc4, hg4⟩
    rw [fail_at _ HC.out] at hc4
    go_wp2_with fail
    refine (err_any b _ _ hc4).mono ?_; rintro e w5 ⟨rfl, rfl⟩
    go_wp2_with fail
    refine bodyPost_ret (results_tmp3 rfl _ _ _) rfl ?_
    exact MPost.mk_ok (c' := { c with pos := c.pos + n + 1, code := 7 }) HC.out HR.out rfl rfl ⟨hf1.le1, hf1.le2, hf1.le3⟩ rfl (fun h => absurd h (by decide)) hc4 (only_trans (only_trans hg1 hg2) hg4)
  have K1 := hid k1
  by_cases k2 : isK (N % 16) = true
  case neg =>
    have HR := hid (show mapR c.ahead = (7, 0, 0, 0, 0) by rw [hR, if_neg (fun h => k2 h.2)])
    have K2 := hid (show isK (N % 16) = false by simpa using k2)
    clear k1 k2 hR
    go_enter Try.func71, Try.ntmps71
    go_wp2_with fail
    refine (size_any b _ _ hc hf).mono ?_; rintro e w1 ⟨c2, u', rfl, hr1, _, hu1, hc1, hg1⟩
    obtain ⟨e1, e3⟩ := hr1.good HC.out
    obtain rfl := e3 HV.out
    rw [HN.out] at hc1
    rw [(hu1 HC.out).trans HU.out]
    clear e1 e3 hr1 hu1
    go_wp2_with fail
    refine (byte_any b _ _ hc1 hf0).mono ?_; rintro e w2 ⟨rfl, hc2, hg2⟩
    rw [HT.out] at hc2
    rw [HB.out]
    go_wp2_with fail
    refine (err_any b _ _ hc2).mono ?_; rintro e w3 ⟨rfl, rfl⟩
    go_wp2_with fail
    refine (is_any (N / 16) _ (by omega) (by omega)).mono ?_; rintro e w3 ⟨rfl, rfl⟩
    rw [K1.out]
    go_wp2_with fail
    refine (is_any (N % 16) _ (by omega) (by omega)).mono ?_; rintro e w3 ⟨rfl, rfl⟩
    rw [K2.out]
    go_wp2_with fail
    refine (fail_any b _ 7 _ hc2).mono ?_; rintro e w4 ⟨rfl, hc4, hg4⟩
    rw [fail_at _ HC.out] at hc4
    go_wp2_with fail
    refine (err_any b _ _ hc4).mono ?_; rintro e w5 ⟨rfl, rfl⟩
    go_wp2_with fail
    refine bodyPost_ret (results_tmp3 rfl _ _ _) rfl ?_
    exact MPost.mk_ok (c' := { c with pos := c.pos + n + 1, code := 7 }) HC.out HR.out rfl rfl ⟨hf1.le1, hf1.le2, hf1.le3⟩ rfl (fun h => absurd h (by decide)) hc4 (only_trans (only_trans hg1 hg2) hg4)
  have K2 := hid k2
  have HR := hid (show mapR c.ahead = (0, n + 1, u, N / 16, N % 16) by rw [hR, if_pos ⟨k1, k2⟩])
  clear k1 k2 hR
  go_enter Try.func71, Try.ntmps71
  go_wp2_with fail
  refine (size_any b _ _ hc hf).mono ?_; rintro e w1 ⟨c2, u', rfl, hr1, _, hu1, hc1, hg1⟩
  obtain ⟨e1, e3⟩ := hr1.good HC.out
  obtain rfl := e3 HV.out
  rw [HN.out] at hc1
  rw [(hu1 HC.out).trans HU.out]
  clear e1 e3 hr1 hu1
  go_wp2_with fail
  refine (byte_any b _ _ hc1 hf0).mono ?_; rintro e w2 ⟨rfl, hc2, hg2⟩
  rw [HT.out] at hc2
  rw [HB.out]
  go_wp2_with fail
  refine (err_any b _ _ hc2).mono ?_; rintro e w3 ⟨rfl, rfl⟩
  go_wp2_with fail
  refine (is_any (N / 16) _ (by omega) (by omega)).mono ?_; rintro e w3 ⟨rfl, rfl⟩
  rw [K1.out]
  go_wp2_with fail
  refine (is_any (N % 16) _ (by omega) (by omega)).mono ?_; rintro e w3 ⟨rfl, rfl⟩
  rw [K2.out]
  go_wp2_with fail
  refine (err_any b _ _ hc2).mono ?_; rintro e w5 ⟨rfl, rfl⟩
  go_wp2_with fail
  refine bodyPost_ret (results_tmp3 rfl _ _ _) rfl ?_
  exact MPost.mk_ok (c' := { c with pos := c.pos + n + 1 }) HC.out HR.out rfl rfl hf1 HC.out (fun _ => by rw [Nat.add_assoc]) hc2 (only_trans hg1 hg2)
end Go.Proofs.Ytdjbgojdkaipfaa
