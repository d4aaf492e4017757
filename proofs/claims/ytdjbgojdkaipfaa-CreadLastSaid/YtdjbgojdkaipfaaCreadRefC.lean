/-
  Walk of the document's answer for chapter 22: Struct.
-/
import Derived.Test.YtdjbgojdkaipfaaCreadRefB
import Derived.Test.YtdjbgojdkaipfaaPCreadI
import Derived.Test.YtdjbgojdkaipfaaSt
import Derived.Deep.QuietTactic
import Derived.BigQuiet
namespace Go.Proofs.Ytdjbgojdkaipfaa
open Go.RowKit

theorem und_rf : Try.prog.underlying 111 = some (.slice 122) := Try.underlying111
theorem info_rf : (Try.prog.info? 122).map (fun i => (i.zero, i.size, i.bytes)) = some (some zF, 6, 64) := by kernel_rfl
theorem wide_bd8 (u : Int) (h0 : 0 ≤ u) (h1 : u ≤ 255) : -9223372036854775808 ≤ wideN u 8 ∧ wideN u 8 ≤ 9223372036854775807 := by
  unfold wideN wideV
  rw [if_pos (by decide)]
  have e : (8 : Int).toNat = 8 := rfl
  rw [e]
  split <;> omega
set_option maxRecDepth 100000 in
theorem contF_num (id k : Int) (v : List UInt8) : -9223372036854775808 ≤ (contF id k v).num ∧ (contF id k v).num ≤ 9223372036854775807 := by
  have hz : (-9223372036854775808 : Int) ≤ 0 ∧ (0 : Int) ≤ 9223372036854775807 := by omega
  have hz1 : (-9223372036854775808 : Int) ≤ 1 ∧ (1 : Int) ≤ 9223372036854775807 := by omega
  unfold contF
  split
  · exact hz1
  · split
    · have h := wide_bd8 (byteAt v 0) (byteAt_lo _ _) (byteAt_hi _ _)
      exact h
    · split
      · obtain ⟨a, b⟩ := vnum_bd v
        exact zag_bd a b
      · split
        · exact hz
        · split
          · exact hz
          · split <;> exact hz
theorem skip_conds {m : Nat} {k : Int} {a : List UInt8} (h : (skipV m k a).1 = 0) : (k = 3 → 1 ≤ (a.take (skipV m k a).2).length) ∧ (k = 7 → (a.take (skipV m k a).2).length ≤ 8) ∧ (k = 8 → vcode (a.take (skipV m k a).2) = 0) := by
  obtain ⟨hh, e⟩ := skipV_flat m k
  refine ⟨fun hk => ?_, fun hk => ?_, fun hk => ?_⟩
  · have h1 := skip_pos (by omega) h
    have h2 := (pre_skip m k a h).1
    rw [List.length_take]; omega
  · subst hk
    rw [e] at h ⊢
    rw [show flatR hh 7 a = takeR 8 a from rfl] at h ⊢
    unfold takeR at h ⊢
    split
    · rename_i q; rw [if_pos q] at h; exact absurd h (by decide)
    · rw [List.length_take]; show min 8 _ ≤ 8; omega
  · subst hk
    rw [e] at h ⊢
    rw [show flatR hh 8 a = textR a from rfl] at h ⊢
    unfold textR at h ⊢
    by_cases hv : vcode a = 0
    · rw [if_pos hv] at h ⊢
      split
      · rename_i q; rw [if_pos q] at h; exact absurd h (by decide)
      · show vcode (a.take (vlen 10 a + (vnum a).toNat)) = 0
        have := (pre_var a hv).2.1 ((a.drop (vlen 10 a)).take (vnum a).toNat)
        have e1 : (varD a).2.1 = vlen 10 a := rfl
        rw [e1, ← List.take_add] at this
        exact (congrArg (fun x => x.1) this).trans hv
    · rw [if_neg hv] at h; exact absurd h hv
def CurB (w : World) (g : Nat) (c : Cu) : Prop := Blk w g 78 #[Sv c.s, .int .i64 c.pos, .int .i64 c.en, .int .i64 c.code]
structure RS (w : World) (m N : Nat) (s : List UInt8) (cb : Nat) (v : Value) (l : Int) (L : List Fd) (c : Cu) (n k : Nat) (wr : World) : Prop where
  ls : LS m N s c l L n
  l0 : -32768 ≤ l
  l1 : l ≤ 32767
  ok : c.code = 0
  len : L.length ≤ c.pos
  kn : k + n = s.length + 1
  cur : CurB wr cb c
  own : OwnF wr w.heap.size 122 v L
  bel : Below w.heap.size w wr
def RSRel (w : World) (m N : Nat) (s : List UInt8) (cb : Nat) (v last i : Value) (wr : World) : Prop :=
  ∃ (v' : Value) (l : Int) (L : List Fd) (c : Cu) (n k : Nat), v' = v ∧ last = .int .i64 l ∧ i = .int .i64 (k : Int) ∧ RS w m N s cb v' l L c n k wr
def RSPst (s : List UInt8) (deep : Int) (w : World) (e : Ending) (w' : World) : Prop :=
  ∃ v, e = .returned (.tuple #[v, .int .i64 ((structO s deep).2.1 : Int), .int .i64 (structO s deep).1]) ∧ OwnF w' w.heap.size 122 v (structO s deep).2.2 ∧ Below w.heap.size w w'
set_option maxRecDepth 100000 in
set_option maxHeartbeats 4000000 in
theorem rstruct_any (s : List UInt8) (deep : Int) (w : World) (hs : s.length ≤ 1000) (d0 : 0 ≤ deep) (d1 : deep ≤ 900) :
    Calls Try.prog 81 #[Sv s, .int .i64 deep] w fun e w' => RSPst s deep w e w' := by
  by_cases hd : 32 ≤ deep
  · have HO := hid (show structO s deep = (33, 0, []) from if_pos hd)
    go_enter Try.func81, Try.ntmps81
    go_wp2_with fail
    exact bodyPost_ret (v := .tuple #[.slice none 0 0, .int .i64 0, .int .i64 33]) (by simp only [results, Try.results81]; go_simp) rfl ⟨_, by rw [HO.out]; rfl, by rw [HO.out]; exact OwnF.nil _ _ _, Below.refl _ _⟩
  · obtain ⟨m, hm⟩ : ∃ m, (32 - (deep + 1)).toNat = m := ⟨_, rfl⟩
    have HO := hid (show structO s deep = stF m (s.length + 1) 0 s by unfold structO; rw [if_neg hd, hm])
    have HM := hid hm
    clear hm
    go_enter Try.func81, Try.ntmps81
    go_wp2_with fail
    refine (rnew_any s _).mono ?_; rintro e w1 ⟨rfl, hw1⟩
    have hrel0 : RSRel w m (s.length + 1) s w1.heap.size (.slice none 0 0) (.int .i64 0) (.int .i64 0) (w1.alloc (.cells #[Sv s, .int .i64 0, .int .i64 s.length, .int .i64 0] 78)) :=
      ⟨_, 0, [], Cu.start s, s.length + 1, 0, rfl, rfl, rfl, LS.start m s (by omega), by decide, by decide, rfl, Nat.zero_le _, by omega, Blk.new w1 _ _, OwnF.nil _ _ _, hw1.alloc hw1.size _⟩
    have hcb : w.heap.size ≤ w1.heap.size := hw1.size
    clear hw1
    unfold agg Cu.start
    go_wp2_with fail
    generalize w1.heap.size = cb at hrel0 hcb ⊢
    go_loopw [8, 9, 10] (fun v l i wr => RSRel w m (s.length + 1) s cb v l i wr) (fun _ _ i _ => s.length + 1 - (intOf i).toNat)
    case atStart => exact hrel0
    case round =>
      clear hrel0
      obtain ⟨v, l, L, c, n, k, rfl, rfl, rfl, hS⟩ := hrel
      have l0 := hS.l0
      have l1 := hS.l1
      have hkn := hS.kn
      have HS := hid hS
      obtain ⟨hgl, hgs⟩ := hS.ls.good hS.ok
      obtain ⟨a0, a1, a2, a3, _, _, _, _⟩ := blk4 hS.cur
      clear hS hgs
      have hlt : k ≤ s.length := by omega
      go_wp2_with fail
      refine (rfield_any c l _ HS.out.ls.fit (by omega) (by omega)).mono ?_; rintro e w3 ⟨c3, id, kind, rfl, hv3, hvb, hvg, hw3⟩
      obtain ⟨e1, e2⟩ := hvg HS.out.ok
      have hv3' : RdF (fun a => ((fieldR l a).1, (fieldR l a).2.1)) c c3 := hv3
      have hf3 := hv3.fit
      obtain ⟨hk0, hk1⟩ := fieldR_kind l c.ahead
      have hbd := fieldR_id l c.ahead
      rw [← e2] at hk0 hk1
      rw [← e1] at hbd
      have HE1 := hid e1
      have HE2 := hid e2
      have HV3 := hid hv3'
      have HC3 := hid (Blk.alloc (Blk.below HS.out.cur hw3 HS.out.cur.lt) (.cells #[Sv c3.s, .int .i64 c3.pos, .int .i64 c3.en, .int .i64 c3.code] 78))
      have HX3 : Hid (CurB (w3.alloc (.cells #[Sv c3.s, .int .i64 c3.pos, .int .i64 c3.en, .int .i64 c3.code] 78)) w3.heap.size c3) := hid (Blk.new w3 _ _)
      have HO3 := hid (ownF_ext (ownF_ext HS.out.own hw3) (ext_alloc w3 (.cells #[Sv c3.s, .int .i64 c3.pos, .int .i64 c3.en, .int .i64 c3.code] 78)))
      have hB3 := HS.out.bel.trans (hw3.mono HS.out.bel.size)
      have HB3 := hid (hB3.alloc hB3.size (.cells #[Sv c3.s, .int .i64 c3.pos, .int .i64 c3.en, .int .i64 c3.code] 78))
      have hx3 : cb < w3.heap.size := Nat.lt_of_lt_of_le HS.out.cur.lt hw3.size
      clear hv3 hv3' hvb hvg hw3 hB3 e1 e2 a0 a1 a2 a3
      unfold agg
      go_upto_region 10 with fail
      generalize w3.alloc (.cells #[Sv c3.s, .int .i64 c3.pos, .int .i64 c3.en, .int .i64 c3.code] 78) = W3 at HC3 HX3 HO3 HB3 ⊢
      generalize w3.heap.size = xb at HX3 hx3 ⊢
      obtain ⟨x0, x1, x2, x3, _, _, _, _⟩ := blk4 HX3.out
      by_cases h30 : c3.code = 0
      case neg =>
        have qz : (c3.code != 0) = true := by simpa using h30
        have hk : (fieldR l c.ahead).2.2.2 = 0 := by
          by_cases hk : (fieldR l c.ahead).2.2.2 = 0
          · exact hk
          · have hz := fieldR_ok l c.ahead hk
            exact absurd ((HV3.out.good HS.out.ok).1.trans hz) h30
        have HR := hid (show structO s deep = (c3.code, 0, []) by rw [HO.out, HS.out.ls.done HS.out.ok HV3.out hk, if_neg h30])
        clear h30 hk
        go_wp2_with fail
        go_quiet (fail)
        go_wp2_with fail
        exact bodyPost_ret (v := .tuple #[.slice none 0 0, .int .i64 0, .int .i64 c3.code]) (by simp only [results, Try.results81]; go_simp) rfl ⟨_, by rw [HR.out]; rfl, by rw [HR.out]; exact OwnF.nil _ _ _, below_drewN HB3.out _⟩
      have qz : (c3.code != 0) = false := by simpa using h30
      by_cases hks : kind = 0
      · subst hks
        have HR := hid (show structO s deep = (0, c3.pos, L) by rw [HO.out, HS.out.ls.done HS.out.ok HV3.out HE2.out.symm, if_pos h30])
        clear h30
        go_wp2_with fail
        go_quiet (fail)
        go_wp2_with fail
        exact bodyPost_ret (v := .tuple #[v, .int .i64 c3.pos, .int .i64 0]) (by simp only [results, Try.results81]; go_simp) rfl ⟨_, by rw [HR.out], by rw [HR.out]; exact ownF_ext HO3.out (ext_drewN _ _), below_drewN HB3.out _⟩
      have hkn : (kind == 0) = false := by simpa using hks
      have HKR := hid (show (fieldR l c.ahead).2.2.2 ≠ 0 by rw [← HE2.out]; exact hks)
      have H30 := hid h30
      clear hks h30
      have hwd : IntKind.i64.wrap (deep + 1) = deep + 1 := IntWalk.i64_in _ (by omega)
      go_wp2_with fail
      refine (rvalue_any m c3 kind (deep + 1) _ hf3 hk0 (by omega) (by omega) (by omega) HM.out).mono ?_; rintro e w4 ⟨c4, rfl, hr4, hw4⟩
      have HC4 := hid (Blk.alloc (Blk.below HC3.out hw4 HC3.out.lt) (.cells #[Sv c4.s, .int .i64 c4.pos, .int .i64 c4.en, .int .i64 c4.code] 78))
      have HX4 := hid (Blk.alloc (Blk.below HX3.out hw4 (Blk.lt HX3.out)) (.cells #[Sv c4.s, .int .i64 c4.pos, .int .i64 c4.en, .int .i64 c4.code] 78))
      have HY4 : Hid (CurB (w4.alloc (.cells #[Sv c4.s, .int .i64 c4.pos, .int .i64 c4.en, .int .i64 c4.code] 78)) w4.heap.size c4) := hid (Blk.new w4 _ _)
      have HO4 := hid (ownF_ext (ownF_ext HO3.out hw4) (ext_alloc w4 (.cells #[Sv c4.s, .int .i64 c4.pos, .int .i64 c4.en, .int .i64 c4.code] 78)))
      have hB4 := HB3.out.trans (hw4.mono HB3.out.size)
      have HB4 := hid (hB4.alloc hB4.size (.cells #[Sv c4.s, .int .i64 c4.pos, .int .i64 c4.en, .int .i64 c4.code] 78))
      have hy4 : xb < w4.heap.size := Nat.lt_of_lt_of_le (Blk.lt HX3.out) hw4.size
      have HR4 := hid hr4
      have hf4 := hr4.fit
      clear hr4 hw4 hB4 x0 x1 x2 x3 HC3 HX3 HO3 HB3
      unfold agg
      go_upto_region 15 with fail
      generalize w4.alloc (.cells #[Sv c4.s, .int .i64 c4.pos, .int .i64 c4.en, .int .i64 c4.code] 78) = W4 at HC4 HX4 HY4 HO4 HB4 ⊢
      generalize w4.heap.size = yb at HY4 hy4 ⊢
      obtain ⟨x0, x1, x2, x3, _, _, _, _⟩ := blk4 HX4.out
      obtain ⟨y0, y1, y2, y3, _, _, _, _⟩ := blk4 HY4.out
      obtain ⟨u1, u2⟩ := HR4.out.good H30.out
      have hvs := valF_skip m kind c3.ahead
      by_cases h40 : c4.code = 0
      case neg =>
        have qz4 : (c4.code != 0) = true := by simpa using h40
        have HR := hid (show structO s deep = (c4.code, 0, []) by
          rw [HO.out]
          refine HS.out.ls.fail HS.out.ok HV3.out HKR.out ?_ h40
          rw [← HE2.out, hvs.1, if_neg (fun q => h40 (u1.trans q.1)), u1])
        clear h40 hvs u1 u2
        go_wp2_with fail
        go_quiet (fail)
        go_wp2_with fail
        exact bodyPost_ret (v := .tuple #[.slice none 0 0, .int .i64 0, .int .i64 c4.code]) (by simp only [results, Try.results81]; go_simp) rfl ⟨_, by rw [HR.out]; rfl, by rw [HR.out]; exact OwnF.nil _ _ _, below_drewN HB4.out _⟩
      have qz4 : (c4.code != 0) = false := by simpa using h40
      have hsz : (skipV m kind c3.ahead).1 = 0 := u1.symm.trans h40
      have e4 := u2 hsz
      obtain ⟨g3, g7, g8⟩ := skip_conds hsz
      have hpl := (pre_skip m kind c3.ahead hsz).1
      obtain ⟨N, hN⟩ : ∃ N, (skipV m kind c3.ahead).2 = N := ⟨_, rfl⟩
      rw [hN] at e4 g3 g7 g8 hpl hvs
      have hp4 : c4.pos = c3.pos + N := by rw [e4]
      have hs3 : c3.s = s := HV3.out.s.trans HS.out.ls.cs
      have hen3 : c3.en = s.length := HV3.out.en.trans HS.out.ls.en
      have hle4 := hf4.le1
      have hen4 : c4.en = s.length := HR4.out.en.trans hen3
      have hcut : (s.drop c3.pos).take N = c3.ahead.take N := by
        have := cut_text c3 0 N (by omega)
        rw [hs3] at this
        simpa using this
      obtain ⟨VB, hVB⟩ : ∃ VB, c3.ahead.take N = VB := ⟨_, rfl⟩
      rw [hVB] at g3 g7 g8 hcut hvs
      have HCUT := hid hcut
      have hVl : VB.length ≤ 100000 := by
        rw [← hVB, List.length_take, ahead_length hf3]; omega
      have HVS := hid hvs
      have HN := hid hN
      have HVB := hid hVB
      have HSZ := hid hsz
      have H40 := hid h40
      have hsub : c4.pos - c3.pos = N := by omega
      have qa : (0 : Int) ≤ (c4.pos : Int) ∧ (c4.pos : Int) ≤ (s.length : Int) := by omega
      have qb : (0 : Int) ≤ (c3.pos : Int) ∧ (c3.pos : Int) ≤ (c4.pos : Int) := by omega
      have hsli : (s.drop c3.pos).take (c4.pos - c3.pos) = VB := by rw [hsub]; exact hcut
      have HSL := hid hsli
      have hlen4 : L.length + 1 ≤ c4.pos := by
        have hlc := HS.out.len
        have hc0 := fieldR_ok l c.ahead HKR.out
        have h1 := (fieldR_pos l c.ahead hc0).1
        have e3 := (HV3.out.good HS.out.ok).2 hc0
        have hp3 : c3.pos = c.pos + (fieldR l c.ahead).2.1 := by rw [e3]
        omega
      clear hsz e4 hpl hN hp4 hcut hVB hvs u1 u2 h40 hsub hsli
      go_wp2_with fail
      rw [HSL.out]
      refine (rof_any id kind VB _ hVl g3 g7 g8).mono ?_; rintro e w5 ⟨rfl, hw5⟩
      obtain ⟨F, hF⟩ : ∃ F, contF id kind VB = F := ⟨_, rfl⟩
      rw [hF]
      have HF := hid hF
      obtain ⟨n0, n1⟩ := contF_num id kind VB
      have hfc := fits_cont id kind VB
      rw [hF] at n0 n1 hfc
      have HFC := hid hfc
      have HC5 := hid (Blk.alloc (Blk.below HC4.out hw5 HC4.out.lt) (.cells F.cells 122))
      have HY5 := hid (Blk.alloc (Blk.below HY4.out hw5 (Blk.lt HY4.out)) (.cells F.cells 122))
      have HF5 := hid (Blk.new w5 122 F.cells)
      have HO5 := hid (ownF_ext (ownF_ext HO4.out hw5) (ext_alloc w5 (.cells F.cells 122)))
      have hB5 := HB4.out.trans (hw5.mono HB4.out.size)
      have HB5 := hid (hB5.alloc hB5.size (.cells F.cells 122))
      clear hw5 hB5 hF hfc x0 x1 x2 x3 y0 y1 y2 y3 HC4 HX4 HY4 HO4 HB4
      unfold Fd.cells at HC5 HY5 HF5 HO5 HB5 ⊢
      go_upto_region 18 with fail
      generalize w5.alloc (.cells #[.int .i64 F.id, .int .u8 F.kind, .int .i64 F.num, .int .u64 F.bits, Sv F.text, Sv F.raw] 122) = W5 at HC5 HY5 HF5 HO5 HB5 ⊢
      generalize w5.heap.size = fb at HF5 ⊢
      obtain ⟨p0, p1, p2, p3, p4, p5, _⟩ := blk6 HF5.out
      have HRF := hid (fun u : World => rfits_any F u n0 n1)
      clear n0 n1
      go_wp2_with fail
      refine (HRF.out _).mono ?_; rintro e w6 ⟨rfl, hw6⟩
      have HC6 := hid (Blk.below HC5.out hw6 (Blk.lt HC5.out))
      have HY6 := hid (Blk.below HY5.out hw6 (Blk.lt HY5.out))
      have HF6 := hid (Blk.below HF5.out hw6 (Blk.lt HF5.out))
      have HO6 := hid (ownF_ext HO5.out hw6)
      have HB6 := hid (HB5.out.trans (hw6.mono HB5.out.size))
      clear hw6 p0 p1 p2 p3 p4 p5 HC5 HY5 HF5 HO5 HB5
      obtain ⟨p0, p1, p2, p3, p4, p5, _⟩ := blk6 HF6.out
      have hv1 : (valF m kind c3.ahead).1 = fitsF F := by
        rw [HVS.out.1, HFC.out]
        by_cases hk : 4 ≤ kind ∧ kind ≤ 6
        · rw [if_pos ⟨HSZ.out, hk⟩, if_pos hk]
        · rw [if_neg (fun q => hk q.2), if_neg hk, HSZ.out]
      by_cases hft : fitsF F = 0
      case neg =>
        have qf : (fitsF F != 0) = true := by simpa using hft
        have HR := hid (show structO s deep = (fitsF F, 0, []) by
          rw [HO.out]
          refine HS.out.ls.fail HS.out.ok HV3.out HKR.out ?_ hft
          rw [← HE2.out]; exact hv1)
        clear hft hv1
        generalize fitsF F = FF at *
        go_wp2_with fail
        exact bodyPost_ret (v := .tuple #[.slice none 0 0, .int .i64 0, .int .i64 FF]) (by simp only [results, Try.results81]; go_simp) rfl ⟨_, by rw [HR.out]; rfl, by rw [HR.out]; exact OwnF.nil _ _ _, HB6.out⟩
      have qf : (fitsF F != 0) = false := by simpa using hft
      have hvv := HVS.out.2 (hv1.trans hft)
      have hNX : LS m (s.length + 1) s c4 id (L ++ [F]) (n - 1) := by
        have hr : RdF (valF m kind) c3 c4 := HR4.out.congr hvv.symm
        have hF : F = contF id kind (c3.ahead.take (valF m kind c3.ahead).2) := by rw [hvv, HN.out, HVB.out, HF.out]
        rw [HE2.out] at hr hF
        rw [HE1.out] at hF ⊢
        exact HS.out.ls.next HS.out.ok HV3.out HKR.out hr (fun _ _ => hF)
      have HNX := hid hNX
      have hLl : L.length ≤ 1000000 := by omega
      have HBK := hid (Blk.new w6 122 F.cells)
      have HO7 := hid (ownF_ext HO6.out (ext_alloc w6 (.cells F.cells 122)))
      have HB7 := hid (HB6.out.alloc HB6.out.size (.cells F.cells 122))
      have HC7 := hid (Blk.alloc HC6.out (.cells F.cells 122))
      have HY7 := hid (Blk.alloc HY6.out (.cells F.cells 122))
      clear hNX hvv hv1 hft hs3 hen3 hen4
      unfold Fd.cells at HBK HO7 HB7 HC7 HY7
      generalize hW7 : w6.alloc (.cells #[.int .i64 F.id, .int .u8 F.kind, .int .i64 F.num, .int .u64 F.bits, Sv F.text, Sv F.raw] 122) = w7 at HBK HO7 HB7 HC7 HY7
      have HW7 := hid hW7
      clear hW7
      generalize fitsF F = FF at *
      go_wp2_with (rw [HW7.out]; refine wpList_appF rfl (.tmp 68) (.tmp 70) 111 122 und_rf info_rf rfl w.heap.size v L rfl HO7.out w6.heap.size 1 122 F rfl HBK.out hLl HB7.out.size ?_; intro v8 w8 hown8 hg8; have hnc := ownF_ne HO7.out HC7.out (by decide); have hny := ownF_ne HO7.out HY7.out (by decide); have HC8 := hid (Blk.grown HC7.out hg8 (Ne.symm hnc)); have HY8 := hid (Blk.grown HY7.out hg8 (Ne.symm hny)); have HB8 := hid (show Below w.heap.size w w8 from Below.grown HB7.out hg8 HB7.out.size (fun k hk => (World.ownsRow.lt HO7.out k hk).1)); have HO8 := hid hown8; clear hown8 hg8 hnc hny; obtain ⟨b0, b1, b2, b3, k0, k1, k2, k3⟩ := blk4 HC8.out; obtain ⟨y0, y1, y2, y3, _, _, _, _⟩ := blk4 HY8.out)
      have hgr := only_setCell (only_setCell (only_setCell (only_setCell (World.grownBy.refl w8 (some cb)) (p := ⟨cb, 0, none⟩) (.inl rfl) (Sv c4.s)) (p := ⟨cb, 1, none⟩) (.inl rfl) (.int .i64 c4.pos)) (p := ⟨cb, 2, none⟩) (.inl rfl) (.int .i64 c4.en)) (p := ⟨cb, 3, none⟩) (.inl rfl) (.int .i64 c4.code)
      refine ⟨⟨v8, id, L ++ [F], c4, n - 1, k + 1, rfl, rfl, by go_num, ⟨HNX.out, hbd.1, hbd.2, H40.out, ?_, by omega, blk_put4 HC8.out _ _ _ _, ownF_kept HO8.out hgr (ownF_ne HO8.out HC8.out (by decide)), below_put (below_put (below_put (below_put HB8.out hcb _ _) hcb _ _) hcb _ _) hcb _ _⟩⟩, ?_⟩
      · rw [List.length_append, List.length_singleton]; exact hlen4
      · simp [intOf] <;> omega
end Go.Proofs.Ytdjbgojdkaipfaa
