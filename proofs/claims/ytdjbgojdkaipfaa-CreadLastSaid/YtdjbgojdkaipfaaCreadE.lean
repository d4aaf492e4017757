/-
  Walks of package cread: a truth within a list, the values of a list.
-/
import Derived.Test.YtdjbgojdkaipfaaCreadD
import Derived.Test.YtdjbgojdkaipfaaPCreadI
namespace Go.Proofs.Ytdjbgojdkaipfaa
open Go.RowKit

set_option maxRecDepth 100000 in
set_option maxHeartbeats 2000000 in
theorem ctruth_any (W0 : World) (rb b fb : Nat) (s : List UInt8) (c : Cu) (i kind : Int) (w : World) (h : Fl W0 rb b fb s c ⟨i, kind, 0, 0, [], []⟩ w) (hf : c.fit) (hc0 : c.code = 0) (hk : kind = 1 ∨ kind = 2) :
    Calls Try.prog 138 #[ptr rb, ptr fb] w fun e w' => VF W0 truthR (contI i kind) rb b fb s c e w' := by
  have HL := hid h
  have q1 := h.rv.p1
  have HC := hid hc0
  have HK := hid hk
  clear h hk
  by_cases hlt : c.pos < c.en
  case neg =>
    obtain ⟨ht, hb⟩ := Cu.take_cut hc0 hlt
    have HT := hid ht
    have HY := hid hb
    have HA := hid (ahead_nil hlt)
    clear hc0 ht hb
    go_enter Try.func138, Try.ntmps138
    go_wp2_with fail
    refine (byte_any b c _ HL.out.rv.cur hf).mono ?_; rintro e w2 ⟨rfl, hc2, hg2⟩
    rw [HT.out] at hc2
    rw [HY.out]
    have HL2 := hid (HL.out.move hc2 hg2 rfl)
    have f1 : w2.cell? ⟨fb, 1, none⟩ = some (.int .u8 kind) := HL2.out.fld.cell 1
    have g1 := HL2.out.fld.frozen 1
    clear hc2 hg2
    go_wp2_with fail
    go_end0
    refine ⟨{ c with code := 1 }, ⟨i, 2, 0, 0, [], []⟩, rfl, ⟨rfl, rfl, ⟨hf.le1, hf.le2, hf.le3⟩, fun h => absurd HC.out h, fun _ => ?_⟩, HL2.out.put 1 _ rfl, fun _ hh => absurd hh (by show ¬ (1 : Int) = 0; decide)⟩
    rw [HA.out]
    exact ⟨rfl, fun hz => absurd hz (by show ¬ (1 : Int) = 0; decide)⟩
  obtain ⟨ht, hb⟩ := Cu.take_ok hc0 hlt
  have HTR := hid (truthR_at hlt hf)
  have HT := hid ht
  have HY := hid hb
  have HAB : Hid (byteAt (c.ahead.take 1) 0 = byteAt c.s c.pos) := hid (by rw [byteAt_take _ _ _ (by omega), Cu.ahead_at c 0 (by omega)]; rfl)
  have hN0 := byteAt_lo c.s c.pos
  generalize hN : byteAt c.s c.pos = N at HTR HY HAB hN0
  have hf1 : ({ c with pos := c.pos + 1 } : Cu).fit := ⟨hlt, hf.le2, hf.le3⟩
  clear hc0 ht hb hN
  by_cases h2 : 2 < N
  · have HQ := hid (show truthR c.ahead = (3, 0) by rw [HTR.out, if_pos h2])
    have hn1 : (N == 1) = false := by rw [beq_eq_false_iff_ne]; omega
    go_enter Try.func138, Try.ntmps138
    go_wp2_with fail
    refine (byte_any b c _ HL.out.rv.cur hf).mono ?_; rintro e w2 ⟨rfl, hc2, hg2⟩
    rw [HT.out] at hc2
    rw [HY.out]
    have HL2 := hid (HL.out.move hc2 hg2 rfl)
    have q2 := HL2.out.rv.p1
    clear hc2 hg2 q1
    go_wp2_with fail
    refine (fail_any b _ 3 _ HL2.out.rv.cur).mono ?_; rintro e w4 ⟨rfl, hc4, hg4⟩
    rw [fail_at _ HC.out] at hc4
    have HL4 := hid (HL2.out.move hc4 hg4 rfl)
    have f1 : w4.cell? ⟨fb, 1, none⟩ = some (.int .u8 kind) := HL4.out.fld.cell 1
    have g1 := HL4.out.fld.frozen 1
    clear hc4 hg4 q2
    go_wp2_with fail
    go_end0
    exact ⟨{ c with pos := c.pos + 1, code := 3 }, ⟨i, 2, 0, 0, [], []⟩, rfl, ⟨rfl, rfl, ⟨hf1.le1, hf1.le2, hf1.le3⟩, fun h => absurd HC.out h, fun _ => by rw [HQ.out]; exact ⟨rfl, fun hz => absurd hz (by show ¬ (3 : Int) = 0; decide)⟩⟩, HL4.out.put 1 _ rfl, fun _ hh => absurd hh (by show ¬ (3 : Int) = 0; decide)⟩
  · have HQ := hid (show truthR c.ahead = (0, 1) by rw [HTR.out, if_neg h2])
    by_cases hn : N = 1
    · have HN := hid hn
      subst hn
      go_enter Try.func138, Try.ntmps138
      go_wp2_with fail
      refine (byte_any b c _ HL.out.rv.cur hf).mono ?_; rintro e w2 ⟨rfl, hc2, hg2⟩
      rw [HT.out] at hc2
      rw [HY.out]
      have HL2 := hid (HL.out.move hc2 hg2 rfl)
      have f1 : w2.cell? ⟨fb, 1, none⟩ = some (.int .u8 kind) := HL2.out.fld.cell 1
      have g1 := HL2.out.fld.frozen 1
      have f2 : w2.cell? ⟨fb, 2, none⟩ = some (.int .i64 0) := HL2.out.fld.cell 2
      have g2 := HL2.out.fld.frozen 2
      clear hc2 hg2
      go_wp2_with fail
      go_end0
      refine ⟨{ c with pos := c.pos + 1 }, ⟨i, 1, 1, 0, [], []⟩, rfl, ⟨rfl, rfl, hf1, fun h => absurd HC.out h, fun _ => by rw [HQ.out]; exact ⟨HC.out, fun _ => rfl⟩⟩, ((HL2.out.put (F' := ⟨i, 2, 0, 0, [], []⟩) 1 _ rfl).put (F' := ⟨i, 1, 0, 0, [], []⟩) 1 _ rfl).put 2 _ rfl, fun _ _ => ?_⟩
      rw [HQ.out]
      unfold contI
      rw [if_pos HK.out, HAB.out, if_pos rfl]
    · have hn1 : (N == 1) = false := by rw [beq_eq_false_iff_ne]; exact hn
      have HN := hid hn
      clear hn
      go_enter Try.func138, Try.ntmps138
      go_wp2_with fail
      refine (byte_any b c _ HL.out.rv.cur hf).mono ?_; rintro e w2 ⟨rfl, hc2, hg2⟩
      rw [HT.out] at hc2
      rw [HY.out]
      have HL2 := hid (HL.out.move hc2 hg2 rfl)
      have f1 : w2.cell? ⟨fb, 1, none⟩ = some (.int .u8 kind) := HL2.out.fld.cell 1
      have g1 := HL2.out.fld.frozen 1
      clear hc2 hg2
      go_wp2_with fail
      go_end0
      refine ⟨{ c with pos := c.pos + 1 }, ⟨i, 2, 0, 0, [], []⟩, rfl, ⟨rfl, rfl, hf1, fun h => absurd HC.out h, fun _ => by rw [HQ.out]; exact ⟨HC.out, fun _ => rfl⟩⟩, HL2.out.put 1 _ rfl, fun _ _ => ?_⟩
      rw [HQ.out]
      unfold contI
      rw [if_pos HK.out, HAB.out, if_neg HN.out]
/-- The loop's state. -/
structure CI (w : World) (m : Nat) (k : Int) (N : Nat) (s : List UInt8) (rb b : Nat) (v : Value) (L : List Fd) (c : Cu) (j : Nat) (wr : World) : Prop where
  li : LI m k N s c L j
  rv : Rv rb b s c wr
  own : OwnF wr w.heap.size 121 v L
  bel : Below w.heap.size w wr
def IRel (w : World) (m : Nat) (k : Int) (N : Nat) (s : List UInt8) (rb b : Nat) (v i : Value) (wr : World) : Prop := ∃ (v' : Value) (L : List Fd) (c : Cu) (j : Nat), v' = v ∧ i = .int .i64 (j : Int) ∧ CI w m k N s rb b v' L c j wr
def IPst (s : List UInt8) (deep : Int) (w : World) (e : Ending) (w' : World) : Prop :=
  ∃ v, e = .returned (.tuple #[v, .int .i64 (itemsO s deep).1]) ∧ OwnF w' w.heap.size 121 v (itemsO s deep).2 ∧ Below w.heap.size w w'
set_option maxRecDepth 100000 in
set_option maxHeartbeats 4000000 in
theorem citems_any (s : List UInt8) (deep : Int) (w : World) (hs : s.length ≤ 1000) (d0 : 0 ≤ deep) (d1 : deep ≤ 900) :
    Calls Try.prog 84 #[Sv s, .int .i64 deep] w fun e w' => IPst s deep w e w' := by
  go_enter Try.func84, Try.ntmps84
  go_wp2_with fail
  refine (copen_any s _ (by omega)).mono ?_; rintro e w1 ⟨rb, b, rfl, hrb, hb, hrv, hw1⟩
  by_cases hd : 32 ≤ deep
  · have HO := hid (show itemsO s deep = (33, []) from if_pos hd)
    have HW := hid hw1
    clear hrv hw1
    go_wp2_with fail
    exact bodyPost_ret (v := .tuple #[.slice none 0 0, .int .i64 33]) (by simp only [results, Try.results84]; go_simp) rfl ⟨_, by rw [HO.out], by rw [HO.out]; exact OwnF.nil _ _ _, HW.out⟩
  · have HR1 := hid hrv
    have HW1 := hid hw1
    have q1 := hrv.p1
    have HD := hid hd
    clear hrv hw1
    go_wp2_with fail
    refine (listhead_any b _ _ HR1.out.cur ⟨Nat.zero_le _, Nat.le_refl _, by show s.length ≤ _; omega⟩).mono ?_; rintro e w2 ⟨c2, n, kind, rfl, hv2, _, hvg, hc2, hg2⟩
    have ha : (Cu.start s).ahead = s := by show (s.take s.length).drop 0 = s; rw [List.take_length]; rfl
    rw [ha] at hv2 hvg
    obtain ⟨e1, e2⟩ := hvg rfl
    obtain ⟨b0, b1, b2, b3⟩ := listR_bd s
    obtain ⟨m, hm⟩ : ∃ m, (32 - (deep + 1)).toNat = m := ⟨_, rfl⟩
    have hLI := LI.start m hv2
    obtain ⟨N, hN⟩ : ∃ N, (listR s).2.2.1.toNat = N := ⟨_, rfl⟩
    rw [hN, ← e2] at hLI
    obtain rfl : n = (N : Int) := by omega
    have hrel0 : IRel w m kind N s rb b (.slice none 0 0) (.int .i64 0) w2 :=
      ⟨_, [], c2, 0, rfl, rfl, hLI, HR1.out.move hc2 hg2 hv2.s, OwnF.nil _ _ _, below_only HW1.out hg2 HW1.out.size hb⟩
    have HM := hid hm
    have hNb : (N : Int) ≤ 2147483647 := by omega
    rw [← e2] at b2 b3
    clear hv2 hvg hc2 hg2 ha e1 e2 b0 b1 hm hLI hN HR1 HW1 q1
    go_wp2_with fail
    go_loopw [9, 10] (fun v i wr => IRel w m kind N s rb b v i wr) (fun _ i _ => N - (intOf i).toNat)
    case atStart => exact hrel0
    case round =>
      clear hrel0
      obtain ⟨v, L, c, j, rfl, rfl, hS⟩ := hrel
      have HS := hid hS
      have q1 := hS.rv.p1
      have hjN := hS.li.le
      have hlen := hS.li.len
      clear hS
      by_cases hlt : j < N
      · go_wp2_with fail
        refine (err_any b c _ HS.out.rv.cur).mono ?_; rintro e w3 ⟨rfl, rfl⟩
        by_cases h0 : c.code = 0
        · have qz : (c.code == 0) = true := by simpa using h0
          have HC0 := hid h0
          clear h0
          go_wp2_with fail
          have HFl : Hid (Fl wr rb b wr.heap.size s c ⟨(j : Int), kind, 0, 0, [], []⟩ (wr.alloc (.cells #[.int .i64 (j : Int), .int .u8 kind, .int .i64 0, .int .u64 0, Sv [], Sv []] 121))) :=
            hid ⟨⟨Blk.alloc HS.out.rv.rdr _, Blk.alloc HS.out.rv.cur _, HS.out.rv.cs⟩, Blk.new wr _ _, only_alloc ⟨rfl, rfl, rfl, Nat.le_refl _, fun _ _ _ => rfl⟩ _, Nat.le_refl _⟩
          refine (same_any kind 1 _).mono ?_; rintro e w3 ⟨rfl, rfl⟩
          rw [sameB_one]
          by_cases hk : kind = 1 ∨ kind = 2
          · have HK := hid hk
            have HVI := hid (show valI m kind = truthR from funext fun a => by unfold valI; rw [if_pos hk])
            rw [decide_eq_true hk]
            clear hk
            go_wp2_with fail
            refine (ctruth_any wr rb b wr.heap.size s c (j : Int) kind _ HFl.out HS.out.li.fit HC0.out HK.out).mono ?_; rintro e w4 ⟨c4, F, rfl, hr4, hL4, hF4⟩
            rw [← HVI.out] at hr4 hF4
            have HL4 := hid hL4
            have HO4 := hid (ownF_kept HS.out.own hL4.gr (ownF_ne HS.out.own HS.out.rv.cur (by decide)))
            have HB4 := hid (below_only HS.out.bel hL4.gr HS.out.bel.size hb)
            have HNX := hid (HS.out.li.next HC0.out hlt hr4 (fun h2 => hF4 HC0.out h2))
            obtain ⟨g0, g1, g2, g3, g4, g5⟩ : w4.cell? ⟨wr.heap.size, 0, none⟩ = some (.int .i64 F.id) ∧ w4.cell? ⟨wr.heap.size, 1, none⟩ = some (.int .u8 F.kind) ∧ w4.cell? ⟨wr.heap.size, 2, none⟩ = some (.int .i64 F.num) ∧ w4.cell? ⟨wr.heap.size, 3, none⟩ = some (.int .u64 F.bits) ∧ w4.cell? ⟨wr.heap.size, 4, none⟩ = some (Sv F.text) ∧ w4.cell? ⟨wr.heap.size, 5, none⟩ = some (Sv F.raw) := ⟨hL4.fld.cell 0, hL4.fld.cell 1, hL4.fld.cell 2, hL4.fld.cell 3, hL4.fld.cell 4, hL4.fld.cell 5⟩
            clear hr4 hL4 hF4 HFl
            have hLl : L.length ≤ 1000000 := by omega
            have HBK := hid (Blk.new w4 121 F.cells)
            have HO5 := hid (ownF_ext HO4.out (ext_alloc w4 (.cells F.cells 121)))
            have HB5 := hid (HB4.out.alloc HB4.out.size (.cells F.cells 121))
            have HV5 : Hid (Rv rb b s c4 (w4.alloc (.cells F.cells 121))) := hid ⟨Blk.alloc HL4.out.rv.rdr _, Blk.alloc HL4.out.rv.cur _, HL4.out.rv.cs⟩
            unfold Fd.cells at HBK HO5 HB5 HV5
            generalize hW5 : w4.alloc (.cells #[.int .i64 F.id, .int .u8 F.kind, .int .i64 F.num, .int .u64 F.bits, Sv F.text, Sv F.raw] 121) = w5 at HBK HO5 HB5 HV5
            have HW5 := hid hW5
            clear hW5
            go_wp2_with (rw [HW5.out]; refine wpList_appF rfl (.tmp 49) (.tmp 51) 108 121 und_cf info_cf rfl w.heap.size v L rfl HO5.out w4.heap.size 1 121 F rfl HBK.out hLl HB5.out.size ?_; intro v6 w6 hown6 hg6)
            have hnb := ownF_ne HO5.out HV5.out.cur (by decide)
            have hnr := ownF_ne HO5.out HV5.out.rdr (by decide)
            have hcur6 : CurAt w6 b c4 := Blk.grown HV5.out.cur hg6 (Ne.symm hnb)
            have hrdr6 := Blk.grown HV5.out.rdr hg6 (Ne.symm hnr)
            have hbel6 : Below w.heap.size w w6 := Below.grown HB5.out hg6 HB5.out.size (fun k hk => (World.ownsRow.lt HO5.out k hk).1)
            refine ⟨⟨v6, L ++ [F], c4, j + 1, rfl, by go_num, HNX.out, ⟨hrdr6, hcur6, HV5.out.cs⟩, hown6, hbel6⟩, ?_⟩
            simp [intOf] <;> omega
          · have HVI := hid (show valI m kind = valF m kind from funext fun a => by unfold valI; rw [if_neg hk])
            have HCI := hid (show contI (j : Int) kind = contF (j : Int) kind from funext fun a => by unfold contI; rw [if_neg hk])
            rw [decide_eq_false hk]
            clear hk
            go_wp2_with fail
            refine (cvalue_any wr rb b wr.heap.size s c (j : Int) kind (deep + 1) _ HFl.out HS.out.li.fit b2 (by omega) (by omega) (by omega)).mono ?_; rintro e w4 ⟨c4, F, rfl, hr4, hL4, hF4⟩
            rw [HM.out, ← HVI.out] at hr4 hF4
            rw [← HCI.out] at hF4
            have HL4 := hid hL4
            have HO4 := hid (ownF_kept HS.out.own hL4.gr (ownF_ne HS.out.own HS.out.rv.cur (by decide)))
            have HB4 := hid (below_only HS.out.bel hL4.gr HS.out.bel.size hb)
            have HNX := hid (HS.out.li.next HC0.out hlt hr4 (fun h2 => hF4 HC0.out h2))
            obtain ⟨g0, g1, g2, g3, g4, g5⟩ : w4.cell? ⟨wr.heap.size, 0, none⟩ = some (.int .i64 F.id) ∧ w4.cell? ⟨wr.heap.size, 1, none⟩ = some (.int .u8 F.kind) ∧ w4.cell? ⟨wr.heap.size, 2, none⟩ = some (.int .i64 F.num) ∧ w4.cell? ⟨wr.heap.size, 3, none⟩ = some (.int .u64 F.bits) ∧ w4.cell? ⟨wr.heap.size, 4, none⟩ = some (Sv F.text) ∧ w4.cell? ⟨wr.heap.size, 5, none⟩ = some (Sv F.raw) := ⟨hL4.fld.cell 0, hL4.fld.cell 1, hL4.fld.cell 2, hL4.fld.cell 3, hL4.fld.cell 4, hL4.fld.cell 5⟩
            clear hr4 hL4 hF4 HFl
            have hLl : L.length ≤ 1000000 := by omega
            have HBK := hid (Blk.new w4 121 F.cells)
            have HO5 := hid (ownF_ext HO4.out (ext_alloc w4 (.cells F.cells 121)))
            have HB5 := hid (HB4.out.alloc HB4.out.size (.cells F.cells 121))
            have HV5 : Hid (Rv rb b s c4 (w4.alloc (.cells F.cells 121))) := hid ⟨Blk.alloc HL4.out.rv.rdr _, Blk.alloc HL4.out.rv.cur _, HL4.out.rv.cs⟩
            unfold Fd.cells at HBK HO5 HB5 HV5
            generalize hW5 : w4.alloc (.cells #[.int .i64 F.id, .int .u8 F.kind, .int .i64 F.num, .int .u64 F.bits, Sv F.text, Sv F.raw] 121) = w5 at HBK HO5 HB5 HV5
            have HW5 := hid hW5
            clear hW5
            go_wp2_with (rw [HW5.out]; refine wpList_appF rfl (.tmp 49) (.tmp 51) 108 121 und_cf info_cf rfl w.heap.size v L rfl HO5.out w4.heap.size 1 121 F rfl HBK.out hLl HB5.out.size ?_; intro v6 w6 hown6 hg6)
            have hnb := ownF_ne HO5.out HV5.out.cur (by decide)
            have hnr := ownF_ne HO5.out HV5.out.rdr (by decide)
            have hcur6 : CurAt w6 b c4 := Blk.grown HV5.out.cur hg6 (Ne.symm hnb)
            have hrdr6 := Blk.grown HV5.out.rdr hg6 (Ne.symm hnr)
            have hbel6 : Below w.heap.size w w6 := Below.grown HB5.out hg6 HB5.out.size (fun k hk => (World.ownsRow.lt HO5.out k hk).1)
            refine ⟨⟨v6, L ++ [F], c4, j + 1, rfl, by go_num, HNX.out, ⟨hrdr6, hcur6, HV5.out.cs⟩, hown6, hbel6⟩, ?_⟩
            simp [intOf] <;> omega
        · have qz : (c.code == 0) = false := by simpa using h0
          have HDN := hid (LI.done (deep := deep) (by have := HD.out; omega) (by rw [HM.out]; exact HS.out.li) (fun q => absurd q h0))
          have H0 := hid h0
          have hfz : (c.fin != 0) = true := by
            unfold Cu.fin; rw [if_pos h0]; simpa using h0
          have hfn := hid (show ¬ c.fin = 0 by simpa using hfz)
          clear h0
          go_wp2_with fail
          refine (end_any b c _ HS.out.rv.cur HS.out.li.fit).mono ?_; rintro e w4 ⟨rfl, n4, rfl⟩
          go_wp2_with fail
          exact bodyPost_ret (v := .tuple #[.slice none 0 0, .int .i64 c.fin]) (by simp only [results, Try.results84]; go_simp) rfl ⟨_, by rw [HDN.out], by rw [HDN.out, if_neg hfn.out]; exact OwnF.nil _ _ _, below_drewN HS.out.bel _⟩
      · have hjN2 : j = N := by omega
        have HDN := hid (LI.done (deep := deep) (by have := HD.out; omega) (by rw [HM.out]; exact HS.out.li) (fun _ => hjN2))
        go_wp2_with fail
        refine (end_any b c _ HS.out.rv.cur HS.out.li.fit).mono ?_; rintro e w4 ⟨rfl, n4, rfl⟩
        by_cases hf0 : c.fin = 0
        · have hfz : (c.fin != 0) = false := by simpa using hf0
          have HF0 := hid hf0
          clear hf0
          go_wp2_with fail
          exact bodyPost_ret (v := .tuple #[v, .int .i64 0]) (by simp only [results, Try.results84]; go_simp) rfl ⟨_, by rw [HDN.out, HF0.out], by rw [HDN.out, if_pos HF0.out]; exact ownF_ext HS.out.own (ext_drewN _ _), below_drewN HS.out.bel _⟩
        · have hfz : (c.fin != 0) = true := by simpa using hf0
          have HF0 := hid hf0
          clear hf0
          go_wp2_with fail
          exact bodyPost_ret (v := .tuple #[.slice none 0 0, .int .i64 c.fin]) (by simp only [results, Try.results84]; go_simp) rfl ⟨_, by rw [HDN.out], by rw [HDN.out, if_neg HF0.out]; exact OwnF.nil _ _ _, below_drewN HS.out.bel _⟩
end Go.Proofs.Ytdjbgojdkaipfaa
