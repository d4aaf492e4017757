/-
  Walk of the document's answer for chapter 22: Items.
-/
import Derived.Test.YtdjbgojdkaipfaaCreadRefC
import Derived.Deep.CutBlock
namespace Go.Proofs.Ytdjbgojdkaipfaa
open Go.RowKit

theorem LI.fail {m N i : Nat} {k K : Int} {s : List UInt8} {c : Cu} {L : List Fd} (h : LI m k N s c L i) (h0 : c.code = 0) (hi : i < N) (hv : (valI m k c.ahead).1 = K) (hK : K ≠ 0) : listF m s = (K, 0, []) := by
  obtain ⟨g1, g2⟩ := h.good h0
  obtain ⟨n, hn⟩ : ∃ n, N - i = n + 1 := ⟨N - i - 1, by omega⟩
  rw [hn] at g2
  rw [g2]
  conv => lhs; unfold itF
  rw [hv, if_neg hK]
  unfold joinS
  rw [if_neg hK]
theorem itemsO_bad {s : List UInt8} {deep K : Int} {m : Nat} (hm : (32 - (deep + 1)).toNat = m) (hd : ¬ 32 ≤ deep) (h : listF m s = (K, 0, [])) (hK : K ≠ 0) : itemsO s deep = (K, []) := by
  unfold itemsO
  rw [if_neg hd, hm, h, if_neg hK]
/-- The kind that a list's value has as a field. -/
def kindI (k : Int) (v : List UInt8) : Int := if k = 1 ∨ k = 2 then (if byteAt v 0 = 1 then 1 else 2) else k
theorem contI_F (i k : Int) (v : List UInt8) : contI i k v = contF i (kindI k v) v := by
  unfold contI kindI
  by_cases hk : k = 1 ∨ k = 2
  · rw [if_pos hk, if_pos hk]
    by_cases hb : byteAt v 0 = 1
    · rw [if_pos hb, if_pos hb]; rfl
    · rw [if_neg hb, if_neg hb]; rfl
  · rw [if_neg hk, if_neg hk]
theorem inner_ok {m : Nat} {k : Int} {a : List UInt8} (h : (innerR (skipV m) k a).1 = 0) :
    k ≠ 0 ∧ 1 ≤ (innerR (skipV m) k a).2 ∧ (innerR (skipV m) k a).2 ≤ a.length ∧ (kindI k (a.take (innerR (skipV m) k a).2) = 3 → 1 ≤ (a.take (innerR (skipV m) k a).2).length) ∧ (kindI k (a.take (innerR (skipV m) k a).2) = 7 → (a.take (innerR (skipV m) k a).2).length ≤ 8) ∧
    (kindI k (a.take (innerR (skipV m) k a).2) = 8 → vcode (a.take (innerR (skipV m) k a).2) = 0) ∧
    (valI m k a).1 = fitsF (contF 0 (kindI k (a.take (innerR (skipV m) k a).2)) (a.take (innerR (skipV m) k a).2)) ∧ ((valI m k a).1 = 0 → valI m k a = innerR (skipV m) k a) := by
  rw [fits_cont]
  by_cases hk : k = 1 ∨ k = 2
  · have e : innerR (skipV m) k a = truthR a := by unfold innerR; rw [if_pos hk]
    have ev : valI m k a = truthR a := by unfold valI; rw [if_pos hk]
    have hp : 1 ≤ (valI m k a).2 := valI_pos (by rw [ev, ← e]; exact h)
    have hpr := (pre_truth a (by rw [← e]; exact h)).1
    have hki : kindI k (a.take (innerR (skipV m) k a).2) = 1 ∨ kindI k (a.take (innerR (skipV m) k a).2) = 2 := by
      unfold kindI
      rw [if_pos hk]
      split
      · exact .inl rfl
      · exact .inr rfl
    rw [e] at h hki ⊢
    rw [ev] at hp ⊢
    refine ⟨by omega, hp, hpr, by omega, by omega, by omega, ?_, fun _ => rfl⟩
    rw [if_neg (by omega)]; exact h
  · have e : innerR (skipV m) k a = skipV m k a := by unfold innerR; rw [if_neg hk]
    have ev : valI m k a = valF m k a := by unfold valI; rw [if_neg hk]
    have hki : kindI k (a.take (innerR (skipV m) k a).2) = k := by unfold kindI; rw [if_neg hk]
    rw [hki, e, ev]
    rw [e] at h
    obtain ⟨c3, c7, c8⟩ := skip_conds h
    obtain ⟨v1, v2⟩ := valF_skip m k a
    refine ⟨?_, skip_pos hk h, (pre_skip m k a h).1, c3, c7, c8, ?_, v2⟩
    · rintro rfl
      obtain ⟨hh, e0⟩ := skipV_flat m 0
      rw [e0] at h
      simp [flatR] at h
    · rw [v1]
      by_cases hq : 4 ≤ k ∧ k ≤ 6
      · rw [if_pos ⟨h, hq⟩, if_pos hq]
      · rw [if_neg (fun q => hq q.2), if_neg hq, h]
theorem fits_id (i j k : Int) (v : List UInt8) : fitsF (contF i k v) = fitsF (contF j k v) := by rw [fits_cont, fits_cont]
structure RI (w : World) (m : Nat) (kind : Int) (N : Nat) (s : List UInt8) (cb : Nat) (v : Value) (L : List Fd) (c : Cu) (j : Nat) (wr : World) : Prop where
  li : LI m kind N s c L j
  cur : CurB wr cb c
  own : OwnF wr w.heap.size 122 v L
  bel : Below w.heap.size w wr
def RIRel (w : World) (m : Nat) (kind : Int) (N : Nat) (s : List UInt8) (cb : Nat) (v i : Value) (wr : World) : Prop :=
  ∃ (v' : Value) (L : List Fd) (c : Cu) (j : Nat), v' = v ∧ i = .int .i64 (j : Int) ∧ RI w m kind N s cb v' L c j wr
def RIPst (s : List UInt8) (deep : Int) (w : World) (e : Ending) (w' : World) : Prop :=
  ∃ v, e = .returned (.tuple #[v, .int .i64 (itemsO s deep).1]) ∧ OwnF w' w.heap.size 122 v (itemsO s deep).2 ∧ Below w.heap.size w w'
set_option maxRecDepth 100000 in
set_option maxHeartbeats 4000000 in
theorem ritems_any (s : List UInt8) (deep : Int) (w : World) (hs : s.length ≤ 1000) (d0 : 0 ≤ deep) (d1 : deep ≤ 900) :
    Calls Try.prog 85 #[Sv s, .int .i64 deep] w fun e w' => RIPst s deep w e w' := by
  by_cases hd : 32 ≤ deep
  · have HO := hid (show itemsO s deep = (33, []) from if_pos hd)
    go_enter Try.func85, Try.ntmps85
    go_wp2_with fail
    exact bodyPost_ret (v := .tuple #[.slice none 0 0, .int .i64 33]) (by simp only [results, Try.results85]; go_simp) rfl ⟨_, by rw [HO.out], by rw [HO.out]; exact OwnF.nil _ _ _, Below.refl _ _⟩
  · obtain ⟨m, hm⟩ : ∃ m, (32 - (deep + 1)).toNat = m := ⟨_, rfl⟩
    have HD := hid hd
    have HM := hid hm
    clear hm
    go_enter Try.func85, Try.ntmps85
    go_wp2_with fail
    refine (rnew_any s _).mono ?_; rintro e w1 ⟨rfl, hw1⟩
    have HW1 := hid hw1
    clear hw1
    unfold agg
    go_wp2_with fail
    refine (rlisthead_any (Cu.start s) _ ⟨Nat.zero_le _, Nat.le_refl _, by show s.length ≤ _; omega⟩).mono ?_; rintro e w2 ⟨c2, nn, kind, rfl, hv2, _, hvg, hw2⟩
    have ha : (Cu.start s).ahead = s := by show (s.take s.length).drop 0 = s; rw [List.take_length]; rfl
    rw [ha] at hv2 hvg
    obtain ⟨e1, e2⟩ := hvg rfl
    obtain ⟨b0, b1, b2, b3⟩ := listR_bd s
    have hLI := LI.start m hv2
    obtain ⟨N, hN⟩ : ∃ N, (listR s).2.2.1.toNat = N := ⟨_, rfl⟩
    rw [hN, ← e2] at hLI
    obtain rfl : nn = (N : Int) := by omega
    have hB2 := HW1.out.trans (hw2.mono HW1.out.size)
    have hrel0 : RIRel w m kind N s w2.heap.size (.slice none 0 0) (.int .i64 0) (w2.alloc (.cells #[Sv c2.s, .int .i64 c2.pos, .int .i64 c2.en, .int .i64 c2.code] 78)) :=
      ⟨_, [], c2, 0, rfl, rfl, hLI, Blk.new w2 _ _, OwnF.nil _ _ _, hB2.alloc hB2.size _⟩
    have hNb : (N : Int) ≤ 2147483647 := by omega
    have hcb : w.heap.size ≤ w2.heap.size := hB2.size
    rw [← e2] at b2 b3
    clear hv2 hvg hw2 ha e1 e2 b0 b1 hLI hN HW1 hB2
    unfold agg
    go_wp2_with fail
    generalize w2.heap.size = cb at hrel0 hcb ⊢
    go_loopw [9, 10] (fun v i wr => RIRel w m kind N s cb v i wr) (fun _ i _ => N - (intOf i).toNat)
    case atStart => exact hrel0
    case round =>
      clear hrel0
      obtain ⟨v, L, c, j, rfl, rfl, hS⟩ := hrel
      have HS := hid hS
      have hjN := hS.li.le
      have hlen := hS.li.len
      have hfc := hS.li.fit
      obtain ⟨a0, a1, a2, a3, _, _, _, _⟩ := blk4 hS.cur
      clear hS
      by_cases hlt : j < N
      · have hwd : IntKind.i64.wrap (deep + 1) = deep + 1 := IntWalk.i64_in _ (by omega)
        go_wp2_with fail
        refine (rinner_any m c kind (deep + 1) _ hfc b2 (by omega) (by omega) (by omega) HM.out).mono ?_; rintro e w4 ⟨c4, rfl, hr4, hw4⟩
        have HC4 := hid (Blk.alloc (Blk.below HS.out.cur hw4 HS.out.cur.lt) (.cells #[Sv c4.s, .int .i64 c4.pos, .int .i64 c4.en, .int .i64 c4.code] 78))
        have HY4 : Hid (CurB (w4.alloc (.cells #[Sv c4.s, .int .i64 c4.pos, .int .i64 c4.en, .int .i64 c4.code] 78)) w4.heap.size c4) := hid (Blk.new w4 _ _)
        have HO4 := hid (ownF_ext (ownF_ext HS.out.own hw4) (ext_alloc w4 (.cells #[Sv c4.s, .int .i64 c4.pos, .int .i64 c4.en, .int .i64 c4.code] 78)))
        have hB4 := HS.out.bel.trans (hw4.mono HS.out.bel.size)
        have HB4 := hid (hB4.alloc hB4.size (.cells #[Sv c4.s, .int .i64 c4.pos, .int .i64 c4.en, .int .i64 c4.code] 78))
        have HR4 := hid hr4
        have hf4 := hr4.fit
        clear hr4 hw4 hB4 a0 a1 a2 a3
        unfold agg
        go_upto_region 9 with fail
        generalize w4.alloc (.cells #[Sv c4.s, .int .i64 c4.pos, .int .i64 c4.en, .int .i64 c4.code] 78) = W4 at HC4 HY4 HO4 HB4 ⊢
        generalize w4.heap.size = yb at HY4 ⊢
        obtain ⟨x0, x1, x2, x3, _, _, _, _⟩ := blk4 HC4.out
        obtain ⟨y0, y1, y2, y3, _, _, _, _⟩ := blk4 HY4.out
        have hvs := valF_skip m kind c.ahead
        by_cases h40 : c4.code = 0
        case neg =>
          have qz4 : (c4.code != 0) = true := by simpa using h40
          have HR := hid (show itemsO s deep = (c4.code, []) by
            refine itemsO_bad HM.out (by have := HD.out; omega) ?_ h40
            by_cases h0 : c.code = 0
            · obtain ⟨u1, u2⟩ := HR4.out.good h0
              refine HS.out.li.fail h0 hlt ?_ h40
              unfold valI
              by_cases hk : kind = 1 ∨ kind = 2
              · rw [if_pos hk, u1]; unfold innerR; rw [if_pos hk]
              · unfold innerR at u1
                rw [if_neg hk] at u1
                rw [if_neg hk, hvs.1, if_neg (fun q => h40 (u1.trans q.1)), u1]
            · have e := HR4.out.bad h0
              rw [e]; exact HS.out.li.bad h0)
          clear h40 hvs
          go_wp2_with fail
          go_quiet (fail)
          go_wp2_with fail
          exact bodyPost_ret (v := .tuple #[.slice none 0 0, .int .i64 c4.code]) (by simp only [results, Try.results85]; go_simp) rfl ⟨_, by rw [HR.out], by rw [HR.out]; exact OwnF.nil _ _ _, below_drewN HB4.out _⟩
        have qz4 : (c4.code != 0) = false := by simpa using h40
        have h0 : c.code = 0 := by
          by_cases h0 : c.code = 0
          · exact h0
          · rw [HR4.out.bad h0] at h40; exact absurd h40 h0
        obtain ⟨u1, u2⟩ := HR4.out.good h0
        have hiz : (innerR (skipV m) kind c.ahead).1 = 0 := u1.symm.trans h40
        have e4 := u2 hiz
        obtain ⟨hk0, hM1, hMl, g3, g7, g8, hv1, hv2⟩ := inner_ok hiz
        obtain ⟨M1, hM⟩ : ∃ M1, (innerR (skipV m) kind c.ahead).2 = M1 := ⟨_, rfl⟩
        rw [hM] at e4 g3 g7 g8 hv1 hM1 hMl
        have hp4 : c4.pos = c.pos + M1 := by rw [e4]
        have hs3 : c.s = s := HS.out.li.cs
        have hen3 : c.en = s.length := HS.out.li.en
        have hle4 := hf4.le1
        have hen4 : c4.en = s.length := HR4.out.en.trans hen3
        have hcut : (s.drop c.pos).take M1 = c.ahead.take M1 := by
          have := cut_text c 0 M1 (by omega)
          rw [hs3] at this
          simpa using this
        have hb0 : byteAt (c.ahead.take M1) 0 = byteAt s c.pos := by
          rw [byteAt_take _ _ _ (by omega), Cu.ahead_at c 0 (by omega), hs3]; rfl
        obtain ⟨VB, hVB⟩ : ∃ VB, c.ahead.take M1 = VB := ⟨_, rfl⟩
        rw [hVB] at g3 g7 g8 hcut hv1 hb0
        have hVl : VB.length ≤ 100000 := by
          rw [← hVB, List.length_take, ahead_length hfc]; omega
        obtain ⟨KI, hKI⟩ : ∃ KI, kindI kind VB = KI := ⟨_, rfl⟩
        rw [hKI] at g3 g7 g8 hv1
        have hKd : KI = if kind = 1 ∨ kind = 2 then (if byteAt s c.pos = 1 then 1 else 2) else kind := by rw [← hKI, ← hb0]; rfl
        have hcont : contI (j : Int) kind VB = contF (j : Int) KI VB := by rw [contI_F, hKI]
        have hv1' : (valI m kind c.ahead).1 = fitsF (contF (j : Int) KI VB) := hv1.trans (fits_id _ _ _ _)
        have hsub : c4.pos - c.pos = M1 := by omega
        have qa : (0 : Int) ≤ (c4.pos : Int) ∧ (c4.pos : Int) ≤ (s.length : Int) := by omega
        have qb : (0 : Int) ≤ (c.pos : Int) ∧ (c.pos : Int) ≤ (c4.pos : Int) := by omega
        have hcp : c.pos < s.length := by omega
        have hsli : (s.drop c.pos).take (c4.pos - c.pos) = VB := by rw [hsub]; exact hcut
        have HSL := hid hsli
        have HV1 := hid hv1'
        have HV2 := hid hv2
        have HM1 := hid hM
        have HVB := hid hVB
        have HCO := hid hcont
        have HKD := hid hKd
        have H40 := hid h40
        have HC0 := hid h0
        have hKb : 0 ≤ KI ∧ KI ≤ 255 := by rw [hKd]; split <;> (try split) <;> omega
        clear hiz e4 hMl hM hp4 hcut hVB hvs u1 u2 h40 hsub hsli hv1 hv1' hv2 hcont hKd h0 hb0 hs3 hen3 hen4 hKI
        go_upto_if 42 with fail
        go_cut [12] (fun v wx => v = .int .u8 KI ∧ wx = W4)
        case first =>
          by_cases hk : kind = 1 ∨ kind = 2
          · have ql : kind < 3 := by omega
            by_cases hb : byteAt s c.pos = 1
            · have q1 : (byteAt s c.pos == 1) = true := by rw [hb]; rfl
              have HK1 := hid (show KI = 1 by rw [HKD.out, if_pos hk, if_pos hb])
              clear hb hk
              go_wp2_with fail
              go_meet
              exact ⟨by rw [HK1.out], rfl⟩
            · have q1 : (byteAt s c.pos == 1) = false := by simpa using hb
              have HK1 := hid (show KI = 2 by rw [HKD.out, if_pos hk, if_neg hb])
              clear hb hk
              go_wp2_with fail
              go_meet
              exact ⟨by rw [HK1.out], rfl⟩
          · have ql : ¬ kind < 3 := by omega
            have HK1 := hid (show KI = kind by rw [HKD.out, if_neg hk])
            clear hk
            go_wp2_with fail
            go_meet
            exact ⟨by rw [HK1.out], rfl⟩
        case rest =>
          obtain ⟨rfl, rfl⟩ := hcut
          go_wp2_with fail
          rw [HSL.out]
          refine (rof_any (j : Int) KI VB _ hVl g3 g7 g8).mono ?_; rintro e w5 ⟨rfl, hw5⟩
          obtain ⟨n0, n1⟩ := contF_num (j : Int) KI VB
          obtain ⟨F, hF⟩ : ∃ F, contF (j : Int) KI VB = F := ⟨_, rfl⟩
          rw [hF] at n0 n1 ⊢
          have HF := hid hF
          have HC5 := hid (Blk.alloc (Blk.below HC4.out hw5 HC4.out.lt) (.cells F.cells 122))
          have HY5 := hid (Blk.alloc (Blk.below HY4.out hw5 (Blk.lt HY4.out)) (.cells F.cells 122))
          have HF5 := hid (Blk.new w5 122 F.cells)
          have HO5 := hid (ownF_ext (ownF_ext HO4.out hw5) (ext_alloc w5 (.cells F.cells 122)))
          have hB5 := HB4.out.trans (hw5.mono HB4.out.size)
          have HB5 := hid (hB5.alloc hB5.size (.cells F.cells 122))
          clear hw5 hB5 hF x0 x1 x2 x3 y0 y1 y2 y3 HC4 HY4 HO4 HB4
          unfold Fd.cells at HC5 HY5 HF5 HO5 HB5 ⊢
          go_upto_region 17 with fail
          generalize w5.alloc (.cells #[.int .i64 F.id, .int .u8 F.kind, .int .i64 F.num, .int .u64 F.bits, Sv F.text, Sv F.raw] 122) = W5 at HC5 HY5 HF5 HO5 HB5 ⊢
          generalize w5.heap.size = fb at HF5 ⊢
          obtain ⟨p0, p1, p2, p3, p4, p5, _⟩ := blk6 HF5.out
          have HRF := hid (fun u : World => rfits_any F u n0 n1)
          clear n0 n1
          go_wp2_with fail
          refine (HRF.out _).mono ?_; rintro e w6 ⟨rfl, hw6⟩
          have HC6 := hid (Blk.below HC5.out hw6 (Blk.lt HC5.out))
          have HY6 := hid (Blk.below HY5.out hw6 (Blk.lt HY5.out))
          have HF6 := hid (Blk.below HF5.out hw6 (Blk.lt HF5.out))
          have HO6 := hid (ownF_ext HO5.out hw6)
          have HB6 := hid (HB5.out.trans (hw6.mono HB5.out.size))
          clear hw6 p0 p1 p2 p3 p4 p5 HC5 HY5 HF5 HO5 HB5
          obtain ⟨p0, p1, p2, p3, p4, p5, _⟩ := blk6 HF6.out
          have hvF : (valI m kind c.ahead).1 = fitsF F := by rw [HV1.out, HF.out]
          by_cases hft : fitsF F = 0
          case neg =>
            have qf : (fitsF F != 0) = true := by simpa using hft
            have HR := hid (show itemsO s deep = (fitsF F, []) from itemsO_bad HM.out (by have := HD.out; omega) (HS.out.li.fail HC0.out hlt hvF hft) hft)
            clear hft hvF
            generalize fitsF F = FF at *
            go_wp2_with fail
            exact bodyPost_ret (v := .tuple #[.slice none 0 0, .int .i64 FF]) (by simp only [results, Try.results85]; go_simp) rfl ⟨_, by rw [HR.out], by rw [HR.out]; exact OwnF.nil _ _ _, HB6.out⟩
          have qf : (fitsF F != 0) = false := by simpa using hft
          have hvv := HV2.out (hvF.trans hft)
          have hNX : LI m kind N s c4 (L ++ [F]) (j + 1) := HS.out.li.next HC0.out hlt (HR4.out.congr hvv.symm) (fun _ => by rw [hvv, HM1.out, HVB.out, HCO.out, HF.out])
          have HNX := hid hNX
          have hLl : L.length ≤ 1000000 := by omega
          have HBK := hid (Blk.new w6 122 F.cells)
          have HO7 := hid (ownF_ext HO6.out (ext_alloc w6 (.cells F.cells 122)))
          have HB7 := hid (HB6.out.alloc HB6.out.size (.cells F.cells 122))
          have HC7 := hid (Blk.alloc HC6.out (.cells F.cells 122))
          have HY7 := hid (Blk.alloc HY6.out (.cells F.cells 122))
          clear hNX hvv hvF hft
          unfold Fd.cells at HBK HO7 HB7 HC7 HY7
          generalize hW7 : w6.alloc (.cells #[.int .i64 F.id, .int .u8 F.kind, .int .i64 F.num, .int .u64 F.bits, Sv F.text, Sv F.raw] 122) = w7 at HBK HO7 HB7 HC7 HY7
          have HW7 := hid hW7
          clear hW7
          generalize fitsF F = FF at *
          go_wp2_with (rw [HW7.out]; refine wpList_appF rfl (.tmp 62) (.tmp 64) 111 122 und_rf info_rf rfl w.heap.size v L rfl HO7.out w6.heap.size 1 122 F rfl HBK.out hLl HB7.out.size ?_; intro v8 w8 hown8 hg8; have hnc := ownF_ne HO7.out HC7.out (by decide); have hny := ownF_ne HO7.out HY7.out (by decide); have HC8 := hid (Blk.grown HC7.out hg8 (Ne.symm hnc)); have HY8 := hid (Blk.grown HY7.out hg8 (Ne.symm hny)); have HB8 := hid (show Below w.heap.size w w8 from Below.grown HB7.out hg8 HB7.out.size (fun k hk => (World.ownsRow.lt HO7.out k hk).1)); have HO8 := hid hown8; clear hown8 hg8 hnc hny; obtain ⟨b0, b1, b4, b5, k0, k1, k2, k3⟩ := blk4 HC8.out; obtain ⟨y0, y1, y2, y3, _, _, _, _⟩ := blk4 HY8.out)
          have hgr := only_setCell (only_setCell (only_setCell (only_setCell (World.grownBy.refl w8 (some cb)) (p := ⟨cb, 0, none⟩) (.inl rfl) (Sv c4.s)) (p := ⟨cb, 1, none⟩) (.inl rfl) (.int .i64 c4.pos)) (p := ⟨cb, 2, none⟩) (.inl rfl) (.int .i64 c4.en)) (p := ⟨cb, 3, none⟩) (.inl rfl) (.int .i64 c4.code)
          refine ⟨⟨v8, L ++ [F], c4, j + 1, rfl, by go_num, ⟨HNX.out, blk_put4 HC8.out _ _ _ _, ownF_kept HO8.out hgr (ownF_ne HO8.out HC8.out (by decide)), below_put (below_put (below_put (below_put HB8.out hcb _ _) hcb _ _) hcb _ _) hcb _ _⟩⟩, ?_⟩
          simp [intOf] <;> omega
      · have hjN2 : j = N := by omega
        have HDN := hid (LI.done (deep := deep) (by have := HD.out; omega) (by rw [HM.out]; exact HS.out.li) (fun _ => hjN2))
        go_wp2_with fail
        refine (rend_any c _).mono ?_; rintro e w4 ⟨rfl, hw4⟩
        have HB4 := hid (HS.out.bel.trans (hw4.mono HS.out.bel.size))
        have HO4 := hid (ownF_ext HS.out.own hw4)
        clear hw4
        by_cases hf0 : c.fin = 0
        · have hfz : (c.fin != 0) = false := by simpa using hf0
          have HF0 := hid hf0
          clear hf0
          go_wp2_with fail
          exact bodyPost_ret (v := .tuple #[v, .int .i64 0]) (by simp only [results, Try.results85]; go_simp) rfl ⟨_, by rw [HDN.out, HF0.out], by rw [HDN.out, if_pos HF0.out]; exact HO4.out, HB4.out⟩
        · have hfz : (c.fin != 0) = true := by simpa using hf0
          have HF0 := hid hf0
          clear hf0
          go_wp2_with fail
          exact bodyPost_ret (v := .tuple #[.slice none 0 0, .int .i64 c.fin]) (by simp only [results, Try.results85]; go_simp) rfl ⟨_, by rw [HDN.out], by rw [HDN.out, if_neg HF0.out]; exact OwnF.nil _ _ _, HB4.out⟩
end Go.Proofs.Ytdjbgojdkaipfaa
