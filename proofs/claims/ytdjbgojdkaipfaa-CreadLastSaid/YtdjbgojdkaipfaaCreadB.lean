/-
  Walks of package cread: texts, raw values.
-/
import Derived.Test.YtdjbgojdkaipfaaCread
import Derived.Test.YtdjbgojdkaipfaaPSkipW
namespace Go.Proofs.Ytdjbgojdkaipfaa
open Go.RowKit

theorem cut_text (c : Cu) (v n : Nat) (h : c.pos + v + n ≤ c.en) : (c.s.drop (c.pos + v)).take n = (c.ahead.take (v + n)).drop v := by
  show _ = (((c.s.take c.en).drop c.pos).take (v + n)).drop v
  rw [List.drop_take, List.drop_drop, List.drop_take, List.take_take, show v + n - v = n by omega, Nat.min_eq_left (by omega)]
theorem text_val (c : Cu) (v n : Nat) (hc : c.code = 0) (h : c.pos + v + n ≤ c.en) : ({ c with pos := c.pos + v } : Cu).text (n : Int) = (c.ahead.take (v + n)).drop v := by
  have hw : ({ c with pos := c.pos + v } : Cu).why (n : Int) = 0 := by
    unfold Cu.why
    rw [if_neg (by simpa using hc), if_neg (by omega), if_neg (by show ¬ ((c.en : Int) - (c.pos + v : Nat) < n); omega)]
  unfold Cu.text
  rw [if_pos hw]
  exact cut_text c v n h
def XPost (R : List UInt8 → Int × Nat) (T : List UInt8 → List UInt8) (b : Nat) (c : Cu) (w : World) (e : Ending) (w' : World) : Prop :=
  ∃ c' t, e = .returned (Sv t) ∧ RdF R c c' ∧ CurAt w' b c' ∧ w.grownBy w' (some b) ∧ (c.code = 0 → c'.code = 0 → t = T (c.ahead.take (R c.ahead).2))
set_option maxRecDepth 100000 in
set_option maxHeartbeats 2000000 in
theorem rtxt_any (rb b : Nat) (s : List UInt8) (c : Cu) (w : World) (h : Rv rb b s c w) (hf : c.fit) :
    Calls Try.prog 162 #[ptr rb] w fun e w' => XPost textR (fun v => v.drop (vlen 10 v)) b c w e w' := by
  have HV := hid h
  have q1 := h.p1
  clear h
  by_cases hc0 : c.code = 0
  case neg =>
    have HC := hid hc0
    have hcf : (c.code == 0) = false := by simpa using hc0
    clear hc0
    go_enter Try.func162, Try.ntmps162
    go_wp2_with fail
    refine (vread_any b c _ HV.out.cur hf).mono ?_; rintro e w1 ⟨c2, u, rfl, hv, hc2, hg2⟩
    obtain ⟨rfl, rfl⟩ := hv.bad HC.out
    have HV1 := hid (HV.out.move hc2 hg2 rfl)
    have HG1 := hid hg2
    have q2 := HV1.out.p1
    clear hv hc2 hg2 q1 HV
    go_wp2_with fail
    refine (err_any b _ _ HV1.out.cur).mono ?_; rintro e w2 ⟨rfl, rfl⟩
    go_wp2_with fail
    refine (take_any b _ 0 _ HV1.out.cur hf (by decide) (by decide)).mono ?_; rintro e w3 ⟨rfl, hc3, hg3⟩
    rw [Cu.take_bad HC.out] at hc3
    have HC3 := hid hc3
    have HG3 := hid (only_trans HG1.out hg3)
    clear hc3 hg3
    go_wp2_with fail
    go_ret
    exact ⟨_, _, rfl, RdF.stay _ hf HC.out, HC3.out, HG3.out, fun hh => absurd hh HC.out⟩
  have HC := hid hc0
  by_cases hv0 : vcode c.ahead = 0
  case neg =>
    have HR := hid (show textR c.ahead = (vcode c.ahead, 0) by rw [textR, if_neg hv0])
    have HV0 := hid hv0
    clear hv0 hc0
    go_enter Try.func162, Try.ntmps162
    go_wp2_with fail
    refine (vread_any b c _ HV.out.cur hf).mono ?_; rintro e w1 ⟨c2, u, rfl, hv, hc2, hg2⟩
    have hrd := hid (rd_var hv)
    obtain ⟨e1, e2, _⟩ := hv.good HC.out
    have hf2 := hv.fit
    have huz : u = 0 := by rw [e2, vnum, if_neg HV0.out]
    subst huz
    have hne : c2.code ≠ 0 := by rw [e1]; exact HV0.out
    have hcf : (c2.code == 0) = false := by simpa using hne
    have HN := hid hne
    have HV1 := hid (HV.out.move hc2 hg2 hv.s)
    have HG1 := hid hg2
    have q2 := HV1.out.p1
    clear hv hc2 hg2 q1 HV e1 e2 hne
    go_wp2_with fail
    refine (err_any b _ _ HV1.out.cur).mono ?_; rintro e w2 ⟨rfl, rfl⟩
    go_wp2_with fail
    refine (take_any b _ 0 _ HV1.out.cur hf2 (by decide) (by decide)).mono ?_; rintro e w3 ⟨rfl, hc3, hg3⟩
    rw [Cu.take_bad HN.out] at hc3
    have HC3 := hid hc3
    have HG3 := hid (only_trans HG1.out hg3)
    clear hc3 hg3
    go_wp2_with fail
    go_ret
    exact ⟨_, _, rfl, hrd.out.of_eq fun _ => by rw [HR.out]; exact ⟨rfl, fun hz => absurd hz HV0.out⟩, HC3.out, HG3.out, fun _ hh => absurd hh HN.out⟩
  obtain ⟨u0, u1⟩ := vnum_bd c.ahead
  have hlv := vlen_le 10 c.ahead
  have hla := ahead_length hf
  have l1 := hf.le1
  have l2 := hf.le2
  have l3 := hf.le3
  have HV0 := hid hv0
  have hcode : (c.code == 0) = true := by simpa using hc0
  have HR0 := hid (show textR c.ahead = if ((c.ahead.length - vlen 10 c.ahead : Nat) : Int) < vnum c.ahead then (1, 0) else (0, vlen 10 c.ahead + (vnum c.ahead).toNat) by rw [textR, if_pos hv0])
  generalize hU : vnum c.ahead = U at u0 u1 HR0
  have HU := hid hU
  have hv1 := hv0
  clear hv0 hc0 hU
  have hlf : ((c.en : Int) - (c.pos + vlen 10 c.ahead : Nat)) = ((c.ahead.length - vlen 10 c.ahead : Nat) : Int) := by omega
  by_cases hlt : ((c.ahead.length - vlen 10 c.ahead : Nat) : Int) < U
  · have HR := hid (show textR c.ahead = (1, 0) by rw [HR0.out, if_pos hlt])
    have hwl : IntKind.u64.wrap ((c.ahead.length - vlen 10 c.ahead : Nat) : Int) = ((c.ahead.length - vlen 10 c.ahead : Nat) : Int) := by rw [IntKind.wrap_u64]; omega
    have HLF := hid hlf
    generalize hX : ((c.ahead.length - vlen 10 c.ahead : Nat) : Int) = X at hlt hwl HLF
    clear HR0 hlf hX hv1
    go_enter Try.func162, Try.ntmps162
    go_wp2_with fail
    refine (vread_any b c _ HV.out.cur hf).mono ?_; rintro e w1 ⟨c2, u, rfl, hv, hc2, hg2⟩
    obtain ⟨e1, e2, e3⟩ := hv.good HC.out
    have hf2 := hv.fit
    obtain rfl := e3 HV0.out
    rw [e2, HU.out]
    have HV1 := hid (HV.out.move hc2 hg2 rfl)
    have HG1 := hid hg2
    have q2 := HV1.out.p1
    clear hv hc2 hg2 q1 HV e1 e2 e3
    go_wp2_with fail
    refine (err_any b _ _ HV1.out.cur).mono ?_; rintro e w2 ⟨rfl, rfl⟩
    go_wp2_with fail
    refine (left_any_r b _ _ X HLF.out HV1.out.cur hf2).mono ?_; rintro e w3 ⟨rfl, n3, rfl⟩
    have HC3 := hid (HV1.out.cur.ext (ext_drewN _ n3))
    have HG3 := hid (only_drewN HG1.out n3)
    have HV3 := hid (HV1.out.move HC3.out (only_of_below (ext_drewN _ n3) _) rfl)
    have q3 := HV3.out.p1
    clear q2
    go_wp2_with fail
    refine (fail_any b _ 1 _ HC3.out).mono ?_; rintro e w4 ⟨rfl, hc4, hg4⟩
    rw [fail_at _ HC.out] at hc4
    have HV4 := hid (HV3.out.move hc4 hg4 rfl)
    have HG4 := hid (only_trans HG3.out hg4)
    have q4 := HV4.out.p1
    clear hc4 hg4 q3
    go_wp2_with fail
    refine (take_any b _ _ _ HV4.out.cur ⟨hf2.le1, hf2.le2, hf2.le3⟩ (by unfold wrap64; omega) (by unfold wrap64; omega)).mono ?_; rintro e w5 ⟨rfl, hc5, hg5⟩
    rw [Cu.take_bad (by simp)] at hc5
    have HC5 := hid hc5
    have HG5 := hid (only_trans HG4.out hg5)
    clear hc5 hg5
    go_wp2_with fail
    go_ret
    exact ⟨{ c with pos := c.pos + vlen 10 c.ahead, code := 1 }, _, rfl, ⟨rfl, rfl, ⟨hf2.le1, hf2.le2, hf2.le3⟩, fun h => absurd HC.out h, fun _ => by rw [HR.out]; exact ⟨rfl, fun hz => absurd hz (by decide)⟩⟩, HC5.out, HG5.out, fun _ hh => absurd hh (by show ¬ ((1 : Int) = 0); decide)⟩
  · have HR := hid (show textR c.ahead = (0, vlen 10 c.ahead + U.toNat) by rw [HR0.out, if_neg hlt])
    have hwl : IntKind.u64.wrap ((c.ahead.length - vlen 10 c.ahead : Nat) : Int) = ((c.ahead.length - vlen 10 c.ahead : Nat) : Int) := by rw [IntKind.wrap_u64]; omega
    have hwu : IntKind.i64.wrap U = U := by rw [IntKind.wrap_i64]; omega
    have hwu2 : wrap64 U = U := by unfold wrap64; omega
    have hu64 : U ≤ 9223372036854775807 := by omega
    have HLF := hid hlf
    have hk : ({ c with pos := c.pos + vlen 10 c.ahead } : Cu).take U = { c with pos := c.pos + (vlen 10 c.ahead + U.toNat) } := by
      have hw : ({ c with pos := c.pos + vlen 10 c.ahead } : Cu).why U = 0 := by
        unfold Cu.why
        rw [if_neg (by simpa using HC.out), if_neg (by omega), if_neg (by show ¬ ((c.en : Int) - (c.pos + vlen 10 c.ahead : Nat) < U); omega)]
      rw [Cu.take, hw, if_pos rfl]
      simp only [Nat.add_assoc]
    have HK := hid hk
    have HTV := hid (show ({ c with pos := c.pos + vlen 10 c.ahead } : Cu).text U = (c.ahead.take (textR c.ahead).2).drop (vlen 10 (c.ahead.take (textR c.ahead).2)) by
      have h1 := text_val c (vlen 10 c.ahead) U.toNat HC.out (by omega)
      rw [show ((U.toNat : Nat) : Int) = U by omega] at h1
      have hne : vlen 10 c.ahead ≠ 0 := by
        have := HV0.out
        unfold vcode at this
        intro h9
        rw [h9] at this
        revert this
        split <;> simp
      have h2 := vlen_ext 10 c.ahead ((c.ahead.drop (vlen 10 c.ahead)).take U.toNat) hne
      rw [HR.out, h1]
      show _ = (c.ahead.take (vlen 10 c.ahead + U.toNat)).drop (vlen 10 (c.ahead.take (vlen 10 c.ahead + U.toNat)))
      rw [List.take_add, h2, ← List.take_add])
    have hfit : ({ c with pos := c.pos + (vlen 10 c.ahead + U.toNat) } : Cu).fit := ⟨by show c.pos + (vlen 10 c.ahead + U.toNat) ≤ c.en; omega, l2, l3⟩
    generalize hX : ((c.ahead.length - vlen 10 c.ahead : Nat) : Int) = X at hlt hwl HLF
    clear HR0 hlf hX hk hv1
    go_enter Try.func162, Try.ntmps162
    go_wp2_with fail
    refine (vread_any b c _ HV.out.cur hf).mono ?_; rintro e w1 ⟨c2, u, rfl, hv, hc2, hg2⟩
    obtain ⟨e1, e2, e3⟩ := hv.good HC.out
    have hf2 := hv.fit
    obtain rfl := e3 HV0.out
    rw [e2, HU.out]
    have HV1 := hid (HV.out.move hc2 hg2 rfl)
    have HG1 := hid hg2
    have q2 := HV1.out.p1
    clear hv hc2 hg2 q1 HV e1 e2 e3
    go_wp2_with fail
    refine (err_any b _ _ HV1.out.cur).mono ?_; rintro e w2 ⟨rfl, rfl⟩
    go_wp2_with fail
    refine (left_any_r b _ _ X HLF.out HV1.out.cur hf2).mono ?_; rintro e w3 ⟨rfl, n3, rfl⟩
    have HC3 := hid (HV1.out.cur.ext (ext_drewN _ n3))
    have HG3 := hid (only_drewN HG1.out n3)
    have HV3 := hid (HV1.out.move HC3.out (only_of_below (ext_drewN _ n3) _) rfl)
    have q3 := HV3.out.p1
    clear q2
    go_wp2_with fail
    refine (take_any b _ U _ HC3.out hf2 (by omega) (by omega)).mono ?_; rintro e w5 ⟨rfl, hc5, hg5⟩
    rw [HK.out] at hc5
    rw [HTV.out]
    have HC5 := hid hc5
    have HG5 := hid (only_trans HG3.out hg5)
    clear hc5 hg5
    go_wp2_with fail
    go_ret
    exact ⟨{ c with pos := c.pos + (vlen 10 c.ahead + U.toNat) }, _, rfl, ⟨rfl, rfl, hfit, fun h => absurd HC.out h, fun _ => by rw [HR.out]; exact ⟨HC.out, fun _ => rfl⟩⟩, HC5.out, HG5.out, fun _ _ => rfl⟩
set_option maxRecDepth 100000 in
set_option maxHeartbeats 2000000 in
theorem raw_any (rb b : Nat) (s : List UInt8) (c : Cu) (kind deep : Int) (w : World) (h : Rv rb b s c w) (hf : c.fit) (k0 : 0 ≤ kind) (k1 : kind ≤ 255) (d0 : 0 ≤ deep) (d1 : deep ≤ 1000) :
    Calls Try.prog 163 #[ptr rb, .int .u8 kind, .int .i64 deep] w fun e w' => XPost (skipV (32 - deep).toNat kind) (fun v => v) b c w e w' := by
  have l1 := hf.le1
  have l2 := hf.le2
  have l3 := hf.le3
  have HV := hid h
  have q1 := h.p1
  clear h
  go_enter Try.func163, Try.ntmps163
  go_wp2_with fail
  refine (at_any b c _ HV.out.cur).mono ?_; rintro e w1 ⟨rfl, rfl⟩
  go_wp2_with fail
  refine (pValue_any b c kind deep _ HV.out.cur hf k0 k1 d0 d1).mono ?_; rintro e w2 ⟨c2, rfl, hr, hc2, hg2⟩
  have HV2 := hid (HV.out.move hc2 hg2 hr.s)
  have HG2 := hid hg2
  have HR := hid hr
  have q2 := HV2.out.p1
  have q3 := HV2.out.p0
  clear hr hc2 hg2 q1
  go_wp2_with fail
  refine (err_any b c2 _ HV2.out.cur).mono ?_; rintro e w3 ⟨rfl, rfl⟩
  by_cases h2 : c2.code = 0
  · have qz : (c2.code != 0) = false := by simpa using h2
    have h0 : c.code = 0 := by
      by_cases h0 : c.code = 0
      · exact h0
      · have := HR.out.bad h0
        rw [this] at h2; exact absurd h2 h0
    obtain ⟨g1, g2⟩ := HR.out.good h0
    have hz : (skipV (32 - deep).toNat kind c.ahead).1 = 0 := g1.symm.trans h2
    have e2 := g2 hz
    obtain ⟨n, hn⟩ : ∃ n, (skipV (32 - deep).toNat kind c.ahead).2 = n := ⟨_, rfl⟩
    rw [hn] at e2
    have hp : c2.pos = c.pos + n := by rw [e2]
    have hle : c.pos + n ≤ c.en := by have := HR.out.fit.le1; rw [hp, HR.out.en] at this; exact this
    have HT := hid (show (s.drop c.pos).take n = c.ahead.take (skipV (32 - deep).toNat kind c.ahead).2 by
      rw [hn, ← HV.out.cs]
      have := cut_text c 0 n (by omega)
      simpa using this)
    have hcs : c.s.length = s.length := by rw [HV.out.cs]
    have qa : (0 : Int) ≤ (c.pos : Int) ∧ (c.pos : Int) ≤ ((c.pos + n : Nat) : Int) := by omega
    have qb : (0 : Int) ≤ ((c.pos + n : Nat) : Int) ∧ ((c.pos + n : Nat) : Int) ≤ (s.length : Int) := by omega
    have hat := fun n0 : Nat => at_quiet b c2 _ n0 HV2.out.cur
    rw [hp] at hat
    have HAT := hid hat
    clear h2 h0 g1 g2 hz e2 hn hp hat
    go_wp2_with fail
    go_quiet ((go_at_call 58; exact HAT.out _))
    go_wp2_with fail
    go_ret
    exact ⟨c2, (s.drop c.pos).take (c.pos + n - c.pos), rfl, HR.out, HV2.out.cur.ext (ext_drewN _ _), only_drewN HG2.out _, fun _ _ => by rw [← HT.out, Nat.add_sub_cancel_left]⟩
  · have qz : (c2.code != 0) = true := by simpa using h2
    have H2 := hid h2
    clear h2
    go_wp2_with fail
    go_ret
    exact ⟨c2, [], rfl, HR.out, HV2.out.cur, HG2.out, fun _ hh => absurd hh H2.out⟩
end Go.Proofs.Ytdjbgojdkaipfaa
