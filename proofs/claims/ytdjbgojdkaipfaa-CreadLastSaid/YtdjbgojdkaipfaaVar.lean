/-
  Walks of package varint.
-/
import Derived.Test.YtdjbgojdkaipfaaPVar
import Derived.Test.YtdjbgojdkaipfaaLen64
import Derived.Test.YtdjbgojdkaipfaaCurB
import Derived.WalkMore
namespace Go.Proofs.Ytdjbgojdkaipfaa
open Go.RowKit

set_option maxRecDepth 100000 in
theorem vsize_any (u : Int) (w : World) (h0 : 0 ≤ u) (h1 : u ≤ 18446744073709551615) :
    Calls Try.prog 151 #[.int .u64 u] w fun e w' => e = .returned (.int .i64 ((varB 9 u).length : Int)) ∧ w = w' := by
  have hs := hid (show ((varB 9 u).length : Int) = (max (Lib.bitLen u.toNat : Int) 1 + 7 - 1) / 7 by rw [varB_size 9 u h0 (by omega) (by omega)]; omega)
  have hl := Lib.bitLen_le u.toNat 64 (by omega) (by omega)
  go_enter Try.func151, Try.ntmps151
  go_wp2_with fail
  refine (bits_Len64 u _ h0 h1).mono ?_; rintro e w1 ⟨rfl, rfl⟩
  generalize Lib.bitLen u.toNat = n at hs hl ⊢
  go_wp2
  go_ret
  exact ⟨by rw [hs.out]; rfl, rfl⟩

/-- The bytes that follow. -/
def Cu.ahead (c : Cu) : List UInt8 := (c.s.take c.en).drop c.pos
theorem Cu.ahead_length {c : Cu} (h : c.fit) : c.ahead.length = c.en - c.pos := by
  have := h.le1; have := h.le2
  simp [Cu.ahead]; omega
theorem Cu.ahead_at (c : Cu) (k : Nat) (h : c.pos + k < c.en) : byteAt c.ahead k = byteAt c.s (c.pos + k) := by
  rw [Cu.ahead, byteAt_drop, byteAt_take _ _ _ h]
theorem pow_128 (k : Nat) : (128 : Int) ^ k = 2 ^ (7 * k) := by rw [Int.pow_mul]; rfl
theorem or_shift (A N : Int) (k : Nat) (a0 : 0 ≤ A) (a1 : A < 128 ^ k) (n0 : 0 ≤ N) (h : N * 128 ^ k ≤ 18446744073709551615) (ha : A ≤ 18446744073709551615) :
    bits .or .u64 A (IntKind.u64.wrap (N * 2 ^ (7 * k))) = A + N * 128 ^ k := by
  rw [IntKind.wrap_u64, ← pow_128]
  have hp : 0 ≤ N * 128 ^ k := Int.mul_nonneg n0 (Int.le_of_lt (Int.pow_pos (by omega)))
  rw [Int.emod_eq_of_lt hp (by omega)]
  obtain ⟨m, rfl⟩ := Int.eq_ofNat_of_zero_le a0
  obtain ⟨n, rfl⟩ := Int.eq_ofNat_of_zero_le n0
  have e : ((n : Int) * 128 ^ k) = ((n * 128 ^ k : Nat) : Int) := by push_cast; rfl
  rw [e] at h ⊢
  rw [u64_or_nat m (n * 128 ^ k) (by omega) (by omega)]
  have hm : m < 2 ^ (7 * k) := by
    have : ((m : Nat) : Int) < ((2 ^ (7 * k) : Nat) : Int) := by rw [pow_128] at a1; push_cast; exact a1
    omega
  have := Nat.shiftLeft_add_eq_or_of_lt hm n
  rw [Nat.shiftLeft_eq] at this
  rw [show (128 : Nat) ^ k = 2 ^ (7 * k) by rw [Nat.pow_mul]]
  rw [Nat.or_comm, ← this]
  push_cast
  omega
theorem andnot_fin : ∀ n : Fin 128, bits .andNot .u8 ((n.val : Int) + 128) 128 = n.val := by decide +kernel
theorem andnot_128 (N : Int) (h0 : 128 ≤ N) (h1 : N ≤ 255) : bits .andNot .u8 N 128 = N % 128 := by
  have := andnot_fin ⟨(N - 128).toNat, by omega⟩
  rw [show (((N - 128).toNat : Nat) : Int) = N - 128 by omega] at this
  rw [show N - 128 + 128 = N by omega] at this
  rw [this]; omega
theorem Cu.take_bad {c : Cu} (h : c.code ≠ 0) (n : Int) : c.take n = c := by
  have hw : c.why n = c.code := by simp [Cu.why, h]
  rw [Cu.take, hw, if_neg h]
theorem Cu.take_cut {c : Cu} (h : c.code = 0) (hlt : ¬ c.pos < c.en) : c.take 1 = { c with code := 1 } ∧ c.byte = 0 := by
  have hw : c.why 1 = 1 := by
    unfold Cu.why
    rw [if_neg (by simpa using h), if_neg (by omega), if_pos (by omega)]
  rw [Cu.take, Cu.byte, hw]
  exact ⟨rfl, rfl⟩
theorem Cu.take_ok {c : Cu} (h : c.code = 0) (hlt : c.pos < c.en) : c.take 1 = { c with pos := c.pos + 1 } ∧ c.byte = byteAt c.s c.pos := by
  have hw : c.why 1 = 0 := by
    unfold Cu.why
    rw [if_neg (by simpa using h), if_neg (by omega), if_neg (by omega)]
  rw [Cu.take, Cu.byte, hw]
  exact ⟨rfl, rfl⟩
/-- What a number's reading does to a cursor. -/
structure VRd (c c' : Cu) (u : Int) : Prop where
  s : c'.s = c.s
  en : c'.en = c.en
  fit : c'.fit
  bad : c.code ≠ 0 → c' = c ∧ u = 0
  good : c.code = 0 → c'.code = vcode c.ahead ∧ u = vnum c.ahead ∧ (vcode c.ahead = 0 → c' = { c with pos := c.pos + vlen 10 c.ahead })
def VPost (b : Nat) (c : Cu) (w : World) (e : Ending) (w' : World) : Prop :=
  ∃ c' u, e = .returned (.int .u64 u) ∧ VRd c c' u ∧ CurAt w' b c' ∧ w.grownBy w' (some b)
def VRel (b : Nat) (c : Cu) (w : World) (u i : Value) (wr : World) : Prop :=
  ∃ k : Nat, k ≤ 9 ∧ i = .int .i64 (k : Int) ∧ u = .int .u64 (vval k c.ahead) ∧ (c.code = 0 ∨ k = 0) ∧ c.pos + k ≤ c.en ∧ (∀ j, j < k → 128 ≤ byteAt c.ahead j) ∧
    CurAt wr b { c with pos := c.pos + k } ∧ w.grownBy wr (some b)
set_option maxRecDepth 100000 in
set_option maxHeartbeats 1000000 in
theorem vread_any (b : Nat) (c : Cu) (w : World) (hc : CurAt w b c) (hf : c.fit) :
    Calls Try.prog 114 #[ptr b] w fun e w' => VPost b c w e w' := by
  have hrel0 : VRel b c w (.int .u64 0) (.int .i64 ((0 : Nat) : Int)) w := ⟨0, by omega, rfl, rfl, .inr rfl, hf.le1, by intro j h; omega, hc, World.grownBy.refl _ _⟩
  go_enter Try.func114, Try.ntmps114
  go_wp2_with fail
  try go_step3
  go_wp2_with fail
  try go_step3
  go_wp2_with fail
  go_loopw [3, 6] (fun u i wr => VRel b c w u i wr) (fun _ i _ => 10 - (intOf i).toNat)
  case atStart => exact hrel0
  case round =>
    clear hrel0 hc
    obtain ⟨k, hk, rfl, rfl, hz, hp, hh, hc, hg⟩ := hrel
    have hf1 : ({ c with pos := c.pos + k } : Cu).fit := ⟨hp, hf.le2, hf.le3⟩
    have hal := hid (Cu.ahead_length hf)
    by_cases hc0 : c.code = 0
    case neg =>
      have hk0 : k = 0 := hz.resolve_left hc0
      subst hk0
      change CurAt wr b c at hc
      have hne : (c.code != 0) = true := by simpa using hc0
      have ht := hid (Cu.take_bad hc0 1)
      have HC := hid hc0
      clear hc0 hz hh hal
      go_wp2_with fail
      refine (byte_any b _ _ hc hf).mono ?_; rintro e w1 ⟨rfl, hc1, hg1⟩
      rw [ht.out] at hc1
      go_wp2_with fail
      refine (err_any b _ _ hc1).mono ?_; rintro e w2 ⟨rfl, rfl⟩
      go_wp2_with fail
      try rw [Exit.noGoto_ret]
      go_ret
      exact ⟨c, 0, rfl, ⟨rfl, rfl, hf, fun _ => ⟨rfl, rfl⟩, fun h => absurd h HC.out⟩, hc1, only_trans hg hg1⟩
    case pos =>
      by_cases hlt : c.pos + k < c.en
      case neg =>
        obtain ⟨ht, hb⟩ := Cu.take_cut (c := { c with pos := c.pos + k }) hc0 hlt
        have hv : vcode c.ahead = 1 := by
          have hn := vlen_none 10 k c.ahead hh (by rw [hal.out]; omega) (by omega) (.inr (by rw [hal.out]; omega))
          unfold vcode
          rw [hn, if_neg (by rw [hal.out]; omega), if_pos rfl]
        have HT := hid ht
        have HB := hid hb
        have HV := hid hv
        have HC := hid hc0
        clear hz hh hal ht hb hv hc0
        go_wp2_with fail
        refine (byte_any b _ _ hc hf1).mono ?_; rintro e w1 ⟨rfl, hc1, hg1⟩
        rw [HT.out] at hc1
        go_wp2_with fail
        refine (err_any b _ _ hc1).mono ?_; rintro e w2 ⟨rfl, rfl⟩
        go_wp2_with fail
        try rw [Exit.noGoto_ret]
        go_ret
        exact ⟨{ c with pos := c.pos + k, code := 1 }, 0, rfl, ⟨rfl, rfl, ⟨hp, hf.le2, hf.le3⟩, fun h => absurd HC.out h, fun _ => ⟨HV.out.symm, by rw [vnum, if_neg (by rw [HV.out]; decide)], fun h => absurd (HV.out.symm.trans h) (by decide)⟩⟩, hc1, only_trans hg hg1⟩
      case pos =>
        obtain ⟨ht, hb⟩ := Cu.take_ok (c := { c with pos := c.pos + k }) hc0 hlt
        have hba := hid (Cu.ahead_at c k hlt)
        have hkl : k < c.ahead.length := by rw [hal.out]; omega
        have n1 := byteAt_lo c.ahead k
        have n2 := byteAt_hi c.ahead k
        have HT := hid ht
        have HB := hid (hb.trans hba.out.symm)
        have HC := hid hc0
        have HH := hid hh
        have HS := hid (vval_snoc k c.ahead hkl)
        have HF := hid (vlen_found 10 k c.ahead hh hkl)
        clear hz hh ht hb hc0 hba
        generalize hN : byteAt c.ahead k = N at n1 n2 HB HS HF
        have HN := hid hN
        clear hN
        have hcode : (c.code != 0) = false := by rw [HC.out]; rfl
        by_cases hk9 : k = 9
        · subst hk9
          by_cases hN1 : 1 < N
          · have hv : vcode c.ahead = 4 := by
              have hor : vlen 10 c.ahead = 0 ∨ vlen 10 c.ahead = 10 := by
                by_cases h : N < 128
                · exact .inr (HF.out h (by omega))
                · refine .inl (vlen_none 10 10 c.ahead ?_ hkl (by omega) (.inl rfl))
                  intro j hj
                  by_cases h9 : j = 9
                  · subst h9; rw [HN.out]; omega
                  · exact HH.out j (by omega)
              unfold vcode
              rw [if_pos ⟨hkl, hor, by rw [HN.out]; exact hN1⟩]
            have HV := hid hv
            clear hv
            go_wp2_with fail
            refine (byte_any b _ _ hc hf1).mono ?_; rintro e w1 ⟨rfl, hc1, hg1⟩
            rw [HT.out] at hc1
            rw [HB.out]
            go_wp2_with fail
            refine (err_any b _ _ hc1).mono ?_; rintro e w2 ⟨rfl, rfl⟩
            go_wp2_with fail
            refine (fail_any b _ 4 _ hc1).mono ?_; rintro e w3 ⟨rfl, hc3, hg3⟩
            go_wp2_with fail
            try rw [Exit.noGoto_ret]
            go_ret
            have HE : ∀ c1 : Cu, c1 = { c with pos := c.pos + 9 + 1 } → c1.fail 4 = { c with pos := c.pos + 9 + 1, code := 4 } := by rintro c1 rfl; simp [Cu.fail, HC.out]
            rw [HE _ rfl] at hc3
            exact ⟨{ c with pos := c.pos + 9 + 1, code := 4 }, 0, rfl, ⟨rfl, rfl, ⟨by show c.pos + 9 + 1 ≤ c.en; omega, hf.le2, hf.le3⟩, fun h => absurd HC.out h, fun _ => ⟨HV.out.symm, by rw [vnum, if_neg (by rw [HV.out]; decide)], fun h => absurd (HV.out.symm.trans h) (by decide)⟩⟩, hc3, only_trans (only_trans hg hg1) hg3⟩
          · have hlt128 : N < 128 := by omega
            go_wp2_with fail
            refine (byte_any b _ _ hc hf1).mono ?_; rintro e w1 ⟨rfl, hc1, hg1⟩
            rw [HT.out] at hc1
            rw [HB.out]
            go_wp2_with fail
            refine (err_any b _ _ hc1).mono ?_; rintro e w2 ⟨rfl, rfl⟩
            go_wp2_with fail
            try rw [Exit.noGoto_ret]
            go_ret
            have hc10 : vlen 10 c.ahead = 10 := HF.out hlt128 (by omega)
            have hv0 : vcode c.ahead = 0 := by
              unfold vcode
              rw [if_neg (by rw [HN.out]; omega), if_neg (by omega)]
            have hvn : vnum c.ahead = vval 9 c.ahead + N * 128 ^ 9 := by
              rw [vnum, if_pos hv0, hc10, HS.out]; omega
            obtain ⟨b0, b1⟩ := vval_bd 9 c.ahead
            refine ⟨{ c with pos := c.pos + 9 + 1 }, vnum c.ahead, ?_, ⟨rfl, rfl, ⟨by show c.pos + 9 + 1 ≤ c.en; omega, hf.le2, hf.le3⟩, fun h => absurd HC.out h, fun _ => ⟨?_, rfl, fun _ => ?_⟩⟩, hc1, only_trans hg hg1⟩
            · rw [hvn]
              have ho := or_shift _ N 9 b0 b1 n1 (by omega) (by omega)
              rw [IntKind.wrap_u64, show (2 : Int) ^ (7 * 9) = 9223372036854775808 by rfl, Int.emod_eq_of_lt (by omega) (by omega)] at ho
              exact congrArg (fun x => Ending.returned (Value.int .u64 x)) ho
            · rw [hv0]; exact HC.out
            · rw [hc10]
        · have hkb : ((k : Int) == 9) = false := by simp; omega
          by_cases hN : N < 128
          · go_wp2_with fail
            refine (byte_any b _ _ hc hf1).mono ?_; rintro e w1 ⟨rfl, hc1, hg1⟩
            rw [HT.out] at hc1
            rw [HB.out]
            go_wp2_with fail
            refine (err_any b _ _ hc1).mono ?_; rintro e w2 ⟨rfl, rfl⟩
            go_wp2_with fail
            try rw [Exit.noGoto_ret]
            go_ret
            have hc10 : vlen 10 c.ahead = k + 1 := HF.out hN (by omega)
            have hv0 : vcode c.ahead = 0 := by
              unfold vcode
              rw [if_neg (by omega), if_neg (by omega)]
            have hvn : vnum c.ahead = vval k c.ahead + N * 128 ^ k := by
              rw [vnum, if_pos hv0, hc10, HS.out]; congr 2; omega
            obtain ⟨b0, b1⟩ := vval_bd k c.ahead
            have hcap := vval_cap 9 (k + 1) c.ahead (by omega)
            have hmod : N % 128 = N := by omega
            rw [HS.out, hmod] at hcap
            have hnn : 0 ≤ N * 128 ^ k := Int.mul_nonneg n1 (Int.le_of_lt (Int.pow_pos (by omega)))
            have hq : N * 128 ^ k ≤ 18446744073709551615 := by generalize N * 128 ^ k = y at hcap hnn ⊢; omega
            have hqa : vval k c.ahead ≤ 18446744073709551615 := by generalize N * 128 ^ k = y at hcap hnn; omega
            refine ⟨{ c with pos := c.pos + k + 1 }, vnum c.ahead, ?_, ⟨rfl, rfl, ⟨by show c.pos + k + 1 ≤ c.en; omega, hf.le2, hf.le3⟩, fun h => absurd HC.out h, fun _ => ⟨?_, rfl, fun _ => ?_⟩⟩, hc1, only_trans hg hg1⟩
            · rw [hvn]
              exact congrArg (fun x => Ending.returned (Value.int .u64 x)) (or_shift _ N k b0 b1 n1 hq hqa)
            · rw [hv0]; exact HC.out
            · rw [hc10]; rfl
          · go_wp2_with fail
            refine (byte_any b _ _ hc hf1).mono ?_; rintro e w1 ⟨rfl, hc1, hg1⟩
            rw [HT.out] at hc1
            rw [HB.out]
            go_wp2_with fail
            refine (err_any b _ _ hc1).mono ?_; rintro e w2 ⟨rfl, rfl⟩
            go_wp2_with fail
            refine ⟨⟨_, _, _, _, _, _, _, _, _, _, _, _, _, _, _, _, _, _, _, _, _, _, _, _, _, _, _, _, _, _, _, _, _, _, _, _, _, _, _, ?rel, rfl⟩, ?measure⟩
            case rel =>
              obtain ⟨b0, b1⟩ := vval_bd k c.ahead
              have hcap := vval_cap 9 (k + 1) c.ahead (by omega)
              have hmod : bits .andNot .u8 N 128 = N % 128 := andnot_128 N (by omega) n2
              rw [HS.out] at hcap
              have hnn : 0 ≤ N % 128 * 128 ^ k := Int.mul_nonneg (by omega) (Int.le_of_lt (Int.pow_pos (by omega)))
              have hq : N % 128 * 128 ^ k ≤ 18446744073709551615 := by generalize N % 128 * 128 ^ k = y at hcap hnn ⊢; omega
              have hqa : vval k c.ahead ≤ 18446744073709551615 := by generalize N % 128 * 128 ^ k = y at hcap hnn; omega
              refine ⟨k + 1, by omega, by go_num, ?_, .inl HC.out, by omega, ?_, hc1, only_trans hg hg1⟩
              · have hm1 : IntKind.u64.wrap (bits .andNot .u8 N 128) = N % 128 := by rw [hmod, IntKind.wrap_u64]; omega
                rw [HS.out, hm1, or_shift _ (N % 128) k b0 b1 (by omega) hq hqa]
              · intro j hj
                by_cases h9 : j = k
                · subst h9; rw [HN.out]; exact hN
                · exact HH.out j (by omega)
            case measure => simp [intOf] <;> omega

theorem more_fin : ∀ n : Fin 256, bits .or .u8 (n.val : Int) 128 = (n.val : Int) % 128 + 128 := by decide +kernel
theorem more_or (n : Int) (h0 : 0 ≤ n) : bits .or .u8 (n % 256) 128 = n % 128 + 128 := by
  have := more_fin ⟨(n % 256).toNat, by omega⟩
  rw [show (((n % 256).toNat : Nat) : Int) = n % 256 by omega] at this
  rw [this]; omega
def PutRel (w : World) (p : List UInt8) (u : Int) (uv v : Value) (wr : World) : Prop :=
  ∃ (f : Nat) (n : Int) (pre : List UInt8), uv = .int .u64 n ∧ 0 ≤ n ∧ n ≤ 18446744073709551615 ∧ n < 128 ^ (f + 1) ∧ pre ++ varB f n = varB 9 u ∧ Own wr w.heap.size v (p ++ pre) ∧ Below w.heap.size w wr
set_option maxRecDepth 100000 in
set_option maxHeartbeats 1000000 in
theorem vput_any (vb : Value) (p : List UInt8) (u : Int) (w : World) (hb0 : Bs w w.heap.size vb p) (h0 : 0 ≤ u) (h1 : u ≤ 18446744073709551615) (hs : p.length ≤ 140737488355000) :
    Calls Try.prog 120 #[vb, .int .u64 u] w fun e w' => ∃ v, e = .returned v ∧ Own w' w.heap.size v (p ++ varB 9 u) ∧ Below w.heap.size w w' := by
  have hlen := varB_len_le 9 10 u (by omega) (by omega) (by omega)
  obtain ⟨A, c, rfl, hlc, hr⟩ := hb0
  have hb0 : Hid (Bs w w.heap.size (.slice A p.length c) p) := ⟨A, c, rfl, hlc, hr⟩
  clear hr hlc
  go_enter Try.func120, Try.ntmps120
  go_wp2_with fail
  refine (vsize_any u _ h0 h1).mono ?_; rintro e w1 ⟨rfl, rfl⟩
  generalize hsz : (varB 9 u).length = sz at hlen
  have HSZ := hid hsz
  clear hsz
  go_wp2_with (first
    | (refine wpList_makeLen rfl _ _ rfl .i64 .i64 _ _ p.length (p.length + sz) rfl rfl rfl (by omega) (by omega) (by omega) w (Below.refl _ _) ?_; intro g w0 hg hown0 hbw0)
    | (refine wpList_copyAll rfl _ _ rfl w g p.length _ _ w.heap.size _ p rfl rfl hown0 rfl (hb0.out.below hbw0) hbw0 ?_; intro w1 hown1 hbw1))
  have hrel0 : PutRel w p u (.int .u64 u) (.slice (some ⟨g, 0, none⟩) p.length (p.length + sz)) w1 := ⟨9, u, [], rfl, h0, h1, by omega, rfl, by simpa using hown1, hbw1⟩
  clear hown1 hbw1 hown0 hbw0
  simp only [goInt]
  go_simp
  go_loopw [1, 5] (fun uv v wr => PutRel w p u uv v wr) (fun uv _ _ => (intOf uv).toNat)
  case atStart => exact hrel0
  case round =>
    clear hrel0
    obtain ⟨f, n, pre, rfl, n0, n1, nf, hpre, hown, hbw⟩ := hrel
    have hpl : pre.length + (varB f n).length ≤ 10 := by rw [← List.length_append, hpre, HSZ.out]; exact hlen
    have hps := varB_pos f n
    have hl : (p ++ pre).length + 1 ≤ 140737488355328 := by rw [List.length_append]; omega
    by_cases hlt : 128 ≤ n
    · obtain ⟨f, rfl⟩ : ∃ g, f = g + 1 := by
        cases f with
        | zero => simp at nf; omega
        | succ f => exact ⟨f, rfl⟩
      have hst := hid (show varB (f + 1) n = bt (n % 128 + 128) :: varB f (n / 128) by simp only [varB]; rw [if_neg (by omega)])
      have hf' : n / 128 < 128 ^ (f + 1) := by rw [Int.pow_succ] at nf; omega
      have HP := hid hpre
      have HF := hid hf'
      have hor := more_or n n0
      have g0 : 0 ≤ n % 128 + 128 := by omega
      have g1 : n % 128 + 128 ≤ 255 := by omega
      clear hpre hpl hps nf hf'
      go_wp2_with (at_builtin; refine wpList_app1 rfl (.tmp 19) (.tmp 23) rfl w u5 _ rfl _ hown hbw rfl g0 g1 hl ?_; intro v1 w1 hown1 hbw1)
      go_roundw
      case rel =>
        refine ⟨f, n / 128, pre ++ [bt (n % 128 + 128)], by go_num, by omega, by omega, HF.out, ?_, by simpa using hown1, hbw1⟩
        rw [List.append_assoc, ← HP.out, hst.out]; rfl
      case measure => simp [intOf] <;> omega
    · have hst : varB f n = [bt n] := by
        cases f with
        | zero => rfl
        | succ f => simp only [varB]; rw [if_pos (by omega)]
      rw [hst] at hpre
      have HP := hid hpre
      have hw : n % 256 = n := by omega
      have g0 : 0 ≤ n := by omega
      have g1 : n ≤ 255 := by omega
      clear hpre hst hpl hps nf
      go_wp2_with (at_builtin; refine wpList_app1 rfl (.tmp 27) (.tmp 30) rfl w u5 _ rfl _ hown hbw rfl g0 g1 hl ?_; intro v1 w1 hown1 hbw1)
      go_ret
      exact ⟨_, rfl, by rw [← HP.out, ← List.append_assoc]; exact hown1, hbw1⟩
end Go.Proofs.Ytdjbgojdkaipfaa
