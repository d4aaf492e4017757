/-
  Walks of package cread: a struct's fields.
-/
import Derived.Test.YtdjbgojdkaipfaaPCread
import Derived.Laws.AppendOwn
namespace Go.Proofs.Ytdjbgojdkaipfaa
open Go.RowKit

def flatF (L : List Fd) : List Value := (L.map (fun f => f.cells.toList)).flatten
def OwnF (w : World) (B : Nat) (T : TypeId) (v : Value) (L : List Fd) : Prop := w.ownsRow B T 6 v L.length (flatF L)
theorem flatF_snoc (L : List Fd) (F : Fd) : flatF (L ++ [F]) = flatF L ++ F.cells.toList := by simp [flatF]
theorem flatF_len : ∀ L : List Fd, (flatF L).length = L.length * 6
  | [] => rfl
  | F :: L => by
    have := flatF_len L
    have e : flatF (F :: L) = F.cells.toList ++ flatF L := rfl
    rw [e, List.length_append, this, List.length_cons]
    show 6 + L.length * 6 = _
    omega
theorem OwnF.nil (w : World) (B : Nat) (T : TypeId) : OwnF w B T (.slice none 0 0) [] := ⟨rfl, .inl ⟨rfl, rfl⟩⟩
theorem cells_one (F : Fd) : ∀ u ∈ F.cells.toList, u.oneCell' = true := by
  intro u hu
  simp only [Fd.cells] at hu
  simp at hu
  rcases hu with rfl | rfl | rfl | rfl | rfl | rfl <;> rfl
def zF : Value := .agg #[.int .i64 0, .int .u8 0, .int .i64 0, .int .u64 0, Sv [], Sv []]
/-- append of one field to a list of the call's own. -/
theorem wpList_appF {w : World} {ops : Array Oper} {rest : List Oper} {o : Oper} {a : Act} {Q : Exit → Act → World → Prop} (hgd : o.guard = none) (s x : Operand) (Ts T : TypeId)
    (hT : Try.prog.underlying Ts = some (.slice T)) (hI : (Try.prog.info? T).map (fun i => (i.zero, i.size, i.bytes)) = some (some zF, 6, 64))
    (ho : o.op = .call { callee := .builtin .append, args := #[s, x], argTypes := #[Ts, Ts] })
    (base : Nat) (v : Value) (L : List Fd) (hs : a.eval s = v) (hown : OwnF w base T v L)
    (g c : Nat) (T' : TypeId) (F : Fd) (hx : a.eval x = .slice (some ⟨g, 0, none⟩) 1 c) (hg : Blk w g T' F.cells) (hl : L.length ≤ 1000000) (hbase : base ≤ w.heap.size)
    (h : ∀ v' w', OwnF w' base T v' (L ++ [F]) → w.grownBy w' v.ownBlock → wpList Try.prog ops Q rest (a.put o.dst v') w') : wpList Try.prog ops Q (o :: rest) a w := by
  refine wpList_plain hgd fun K hK => ?_
  obtain ⟨i0, hi, hz0, hz1, hz2⟩ := info_parts hI
  refine wp_append_own (w := w) s x _ ho base T i0 _ 6 64 hT hi hz0 hz1 hz2 rfl (by omega) v L.length (flatF L) hs hown ⟨g, 0, none⟩ 1 c F.cells.toList hx (by rfl)
    (fun j u hu => by rw [add_zero_off, hg.cell j, ← hu]; simp) (cells_one F) (by unfold maxLen; omega) (by omega) hbase ?_
  intro v' w' h1 h2 _
  refine hK _ _ (h v' w' ?_ h2)
  unfold OwnF
  rw [flatF_snoc, List.length_append]
  exact h1
theorem und_cf : Try.prog.underlying 108 = some (.slice 121) := Try.underlying108
theorem info_cf : (Try.prog.info? 121).map (fun i => (i.zero, i.size, i.bytes)) = some (some zF, 6, 64) := by kernel_rfl
set_option maxRecDepth 100000 in
theorem copen_any (s : List UInt8) (w : World) (hs : s.length ≤ 1125899906842624) :
    Calls Try.prog 134 #[Sv s] w fun e w' => ∃ rb b, e = .returned (ptr rb) ∧ w.heap.size ≤ rb ∧ w.heap.size ≤ b ∧ Rv rb b s (Cu.start s) w' ∧ Below w.heap.size w w' := by
  go_enter Try.func134, Try.ntmps134
  go_wp2_with fail
  refine (new_any s _ hs).mono ?_; rintro e w1 ⟨b, rfl, hb, hc1, hw1⟩
  have HC := hid hc1
  have HW := hid hw1
  clear hc1 hw1
  go_wp2_with fail
  go_ret
  exact ⟨w1.heap.size, b, rfl, HW.out.size, hb, ⟨Blk.new w1 _ _, Blk.alloc HC.out _, rfl⟩, HW.out.alloc HW.out.size _⟩
/-- The loop's state. -/
structure CS (w : World) (m N : Nat) (s : List UInt8) (rb b : Nat) (v last : Value) (l : Int) (L : List Fd) (c : Cu) (n : Nat) (wr : World) : Prop where
  ls : LS m N s c l L n
  last : last = .int .i64 l
  l0 : -32768 ≤ l
  l1 : l ≤ 32767
  len : c.code = 0 → L.length ≤ c.pos
  len1 : L.length ≤ s.length + 1
  rv : Rv rb b s c wr
  own : OwnF wr w.heap.size 121 v L
  bel : Below w.heap.size w wr
def CRel (w : World) (m N : Nat) (s : List UInt8) (rb b : Nat) (v last : Value) (wr : World) : Prop := ∃ v' l L c n, v' = v ∧ CS w m N s rb b v' last l L c n wr
def SPst (s : List UInt8) (deep : Int) (w : World) (e : Ending) (w' : World) : Prop :=
  ∃ v, e = .returned (.tuple #[v, .int .i64 ((structO s deep).2.1 : Int), .int .i64 (structO s deep).1]) ∧ OwnF w' w.heap.size 121 v (structO s deep).2.2 ∧ Below w.heap.size w w'
theorem ownF_kept {w w' : World} {B : Nat} {T : TypeId} {v : Value} {L : List Fd} (h : OwnF w B T v L) {g : Nat} (hg : w.grownBy w' (some g)) (hne : v.ownBlock ≠ some g) : OwnF w' B T v L :=
  World.ownsRow.kept h hg (by simp; exact Or.inr hne)
theorem ownF_ext {w w' : World} {B : Nat} {T : TypeId} {v : Value} {L : List Fd} (h : OwnF w B T v L) (hb : Below w.heap.size w w') : OwnF w' B T v L :=
  World.ownsRow.kept h (only_of_below hb none) (by cases v.ownBlock <;> simp)
theorem ownF_ne {w : World} {B : Nat} {T t : TypeId} {v : Value} {L : List Fd} (h : OwnF w B T v L) {g : Nat} {cs : Array Value} (hb : Blk w g t cs) (hne : T ≠ t) : v.ownBlock ≠ some g := by
  rcases h.2 with ⟨rfl, _⟩ | ⟨g', cap, cur, rfl, hg, hh, _⟩
  · simp [Value.ownBlock]
  · intro e
    have e' : g' = g := by simpa [Value.ownBlock] using e
    subst e'
    have := hh.symm.trans hb
    simp at this
    exact hne this.2
set_option maxRecDepth 100000 in
set_option maxHeartbeats 4000000 in
theorem cstruct_any (s : List UInt8) (deep : Int) (w : World) (hs : s.length ≤ 1000) (d0 : 0 ≤ deep) (d1 : deep ≤ 900) :
    Calls Try.prog 80 #[Sv s, .int .i64 deep] w fun e w' => SPst s deep w e w' := by
  go_enter Try.func80, Try.ntmps80
  go_wp2_with fail
  refine (copen_any s _ (by omega)).mono ?_; rintro e w1 ⟨rb, b, rfl, hrb, hb, hrv, hw1⟩
  by_cases hd : 32 ≤ deep
  · have HO := hid (show structO s deep = (33, 0, []) from if_pos hd)
    have HW := hid hw1
    clear hrv hw1
    go_wp2_with fail
    exact bodyPost_ret (v := .tuple #[.slice none 0 0, .int .i64 0, .int .i64 33]) (by simp only [results, Try.results80]; go_simp) rfl ⟨_, by rw [HO.out]; rfl, by rw [HO.out]; exact OwnF.nil _ _ _, HW.out⟩
  · obtain ⟨m, hm⟩ : ∃ m, (32 - (deep + 1)).toNat = m := ⟨_, rfl⟩
    have hO : structO s deep = stF m (s.length + 1) 0 s := by unfold structO; rw [if_neg hd, hm]
    have HO := hid hO
    have hrel0 : CRel w m (s.length + 1) s rb b (.slice none 0 0) (.int .i64 0) w1 :=
      ⟨_, 0, [], _, _, rfl, LS.start m s (by omega), rfl, by decide, by decide, fun _ => Nat.zero_le _, Nat.zero_le _, hrv, OwnF.nil _ _ _, hw1⟩
    have HM := hid hm
    clear hrv hw1 hO hm
    go_wp2_with fail
    go_loopw [4, 8] (fun v l wr => CRel w m (s.length + 1) s rb b v l wr) (fun _ _ wr => rest wr b)
    case atStart => exact hrel0
    case round =>
      clear hrel0
      obtain ⟨v, l, L, c, n, rfl, hS⟩ := hrel
      obtain rfl := hS.last
      have l0 := hS.l0
      have l1 := hS.l1
      have HS := hid hS
      have q1 := hS.rv.p1
      clear hS
      go_wp2_with fail
      refine (field_any b c l _ HS.out.rv.cur HS.out.ls.fit (by omega) (by omega)).mono ?_; rintro e w3 ⟨c3, id, kind, rfl, hv3, hvb, hvg, hc3, hg3⟩
      have HS3 := hid (HS.out.rv.move hc3 hg3 hv3.s)
      have hv3' : RdF (fun a => ((fieldR l a).1, (fieldR l a).2.1)) c c3 := hv3
      have HO3 := hid (ownF_kept HS.out.own hg3 (ownF_ne HS.out.own HS.out.rv.cur (by decide)))
      have HB3 := hid (below_only HS.out.bel hg3 HS.out.bel.size hb)
      have q3 := HS3.out.p1
      have hms := rest_at HS.out.rv.cur
      by_cases hks : kind = 0
      · subst hks
        have hfin : stF m (s.length + 1) 0 s = if c3.code = 0 then (0, c3.pos, L) else (c3.code, 0, []) := by
          by_cases h0 : c.code = 0
          · exact HS.out.ls.done h0 hv3' (hvg h0).2.symm
          · have e := hv3.bad h0
            rw [e, if_neg h0]
            exact HS.out.ls.bad h0
        have HFIN := hid hfin
        have hf3 := hv3.fit
        clear hv3 hv3' hvb hvg hc3 hg3 hms hfin
        go_wp2_with fail
        refine (err_any b c3 _ HS3.out.cur).mono ?_; rintro e w4 ⟨rfl, rfl⟩
        by_cases h30 : c3.code = 0
        · have qz : (c3.code != 0) = false := by simpa using h30
          have HR := hid (show structO s deep = (0, c3.pos, L) by rw [HO.out, HFIN.out, if_pos h30])
          clear h30 HFIN
          go_wp2_with fail
          refine (at_any b c3 _ HS3.out.cur).mono ?_; rintro e w5 ⟨rfl, rfl⟩
          go_wp2_with fail
          exact bodyPost_ret (v := .tuple #[v, .int .i64 c3.pos, .int .i64 0]) (by simp only [results, Try.results80]; go_simp) rfl ⟨v, by rw [HR.out], by rw [HR.out]; exact HO3.out, HB3.out⟩
        · have qz : (c3.code != 0) = true := by simpa using h30
          have HR := hid (show structO s deep = (c3.code, 0, []) by rw [HO.out, HFIN.out, if_neg h30])
          clear h30 HFIN
          go_wp2_with fail
          refine (err_any b c3 _ HS3.out.cur).mono ?_; rintro e w5 ⟨rfl, rfl⟩
          go_wp2_with fail
          exact bodyPost_ret (v := .tuple #[.slice none 0 0, .int .i64 0, .int .i64 c3.code]) (by simp only [results, Try.results80]; go_simp) rfl ⟨_, by rw [HR.out]; rfl, by rw [HR.out]; exact OwnF.nil _ _ _, HB3.out⟩
      · have hkn : (kind == 0) = false := by simpa using hks
        have h0 : c.code = 0 := by
          by_cases h0 : c.code = 0
          · exact h0
          · exact absurd (hvb h0).2 hks
        obtain ⟨e1, e2⟩ := hvg h0
        obtain ⟨hk0, hk1⟩ := fieldR_kind l c.ahead
        have hbd := fieldR_id l c.ahead
        have hkR : (fieldR l c.ahead).2.2.2 ≠ 0 := by rw [← e2]; exact hks
        have hc0 := fieldR_ok l c.ahead hkR
        obtain ⟨p1, p2⟩ := fieldR_pos l c.ahead hc0
        have e3 := (hv3'.good h0).2 hc0
        have hal := ahead_length HS.out.ls.fit
        rw [if_pos h0] at hms
        have hlc := HS.out.len h0
        have hcp := HS.out.ls.fit.le1
        have hce := HS.out.ls.en
        have HV3 := hid hv3'
        have HE1 := hid e1
        have HE2 := hid e2
        have HE3 := hid e3
        have HC0 := hid h0
        have HKR := hid hkR
        have HMS := hid hms
        rw [← e2] at hk0 hk1
        rw [← e1] at hbd
        have hf3 := hv3.fit
        clear hv3 hv3' hvb hvg hc3 hg3 hms e1 e2 e3 hkR hc0 h0 hks
        go_wp2_with fail
        have HFl : Hid (Fl w3 rb b w3.heap.size s c3 ⟨id, kind, 0, 0, [], []⟩ (w3.alloc (.cells #[.int .i64 id, .int .u8 kind, .int .i64 0, .int .u64 0, Sv [], Sv []] 121))) :=
          hid ⟨⟨Blk.alloc HS3.out.rdr _, Blk.alloc HS3.out.cur _, HS3.out.cs⟩, Blk.new w3 _ _, only_alloc ⟨rfl, rfl, rfl, Nat.le_refl _, fun _ _ _ => rfl⟩ _, Nat.le_refl _⟩
        refine (cvalue_any w3 rb b w3.heap.size s c3 id kind (deep + 1) _ HFl.out hf3 hk0 (by omega) (by omega) (by omega)).mono ?_; rintro e w4 ⟨c4, F, rfl, hr4, hL4, hF4⟩
        have HL4 := hid hL4
        have HF4 := hid hF4
        have HR4 := hid hr4
        have hm4 := rest_at hL4.rv.cur
        have HO4 := hid (ownF_kept HO3.out hL4.gr (ownF_ne HO3.out HS3.out.cur (by decide)))
        have HB4 := hid (below_only HB3.out hL4.gr HB3.out.size hb)
        have hNX : LS m (s.length + 1) s c4 (fieldR l c.ahead).2.2.1 (L ++ [F]) (n - 1) := by
          have hr : RdF (valF m (fieldR l c.ahead).2.2.2) c3 c4 := by rw [← HM.out, ← HE2.out]; exact hr4
          refine HS.out.ls.next HC0.out HV3.out HKR.out hr (fun a1 a2 => ?_)
          have := hF4 a1 a2
          rw [HM.out] at this
          rw [← HE1.out, ← HE2.out]; exact this
        rw [← HE1.out] at hNX
        have hgo : c4.code = 0 → c4.en - c4.pos < c.en - c.pos ∧ (L ++ [F]).length ≤ c4.pos := by
          intro h40
          have h30 : c3.code = 0 := by
            by_cases h30 : c3.code = 0
            · exact h30
            · rw [hr4.bad h30] at h40; exact absurd h40 h30
          have e4 := (hr4.good h30).2 ((hr4.good h30).1.symm.trans h40)
          have q1 : c4.pos = c.pos + (fieldR l c.ahead).2.1 + (valF (32 - (deep + 1)).toNat kind c3.ahead).2 := by rw [e4, HE3.out]
          have q2 : c4.en = c.en := by rw [e4, HE3.out]
          have q3 := hr4.fit.le1
          rw [List.length_append, List.length_singleton]
          omega
        have HNX := hid hNX
        have HGO := hid hgo
        obtain ⟨g0, g1, g2, g3, g4, g5⟩ : w4.cell? ⟨w3.heap.size, 0, none⟩ = some (.int .i64 F.id) ∧ w4.cell? ⟨w3.heap.size, 1, none⟩ = some (.int .u8 F.kind) ∧ w4.cell? ⟨w3.heap.size, 2, none⟩ = some (.int .i64 F.num) ∧ w4.cell? ⟨w3.heap.size, 3, none⟩ = some (.int .u64 F.bits) ∧ w4.cell? ⟨w3.heap.size, 4, none⟩ = some (Sv F.text) ∧ w4.cell? ⟨w3.heap.size, 5, none⟩ = some (Sv F.raw) := ⟨hL4.fld.cell 0, hL4.fld.cell 1, hL4.fld.cell 2, hL4.fld.cell 3, hL4.fld.cell 4, hL4.fld.cell 5⟩
        clear hr4 hL4 hF4 hNX hgo q3 HFl
        have hLl : L.length ≤ 1000000 := by have := HS.out.len1; omega
        have HBK := hid (Blk.new w4 121 F.cells)
        have HO5 := hid (ownF_ext HO4.out (ext_alloc w4 (.cells F.cells 121)))
        have HB5 := hid (HB4.out.alloc HB4.out.size (.cells F.cells 121))
        have HV5 : Hid (Rv rb b s c4 (w4.alloc (.cells F.cells 121))) := hid ⟨Blk.alloc HL4.out.rv.rdr _, Blk.alloc HL4.out.rv.cur _, HL4.out.rv.cs⟩
        unfold Fd.cells at HBK HO5 HB5 HV5
        generalize hW5 : w4.alloc (.cells #[.int .i64 F.id, .int .u8 F.kind, .int .i64 F.num, .int .u64 F.bits, Sv F.text, Sv F.raw] 121) = w5 at HBK HO5 HB5 HV5
        have HW5 := hid hW5
        clear hW5
        go_wp2_with (rw [HW5.out]; refine wpList_appF rfl (.tmp 34) (.tmp 36) 108 121 und_cf info_cf rfl w.heap.size v L rfl HO5.out w4.heap.size 1 121 F rfl HBK.out hLl HB5.out.size ?_; intro v6 w6 hown6 hg6)
        have hnb := ownF_ne HO5.out HV5.out.cur (by decide)
        have hnr := ownF_ne HO5.out HV5.out.rdr (by decide)
        have hcur6 : CurAt w6 b c4 := Blk.grown HV5.out.cur hg6 (Ne.symm hnb)
        have hrdr6 := Blk.grown HV5.out.rdr hg6 (Ne.symm hnr)
        have hbel6 : Below w.heap.size w w6 := Below.grown HB5.out hg6 HB5.out.size (fun k hk => (World.ownsRow.lt HO5.out k hk).1)
        have hm6 := rest_at hcur6
        refine ⟨⟨v6, id, L ++ [F], c4, n - 1, rfl, HNX.out, rfl, hbd.1, hbd.2, fun h => (HGO.out h).2, ?_, ⟨hrdr6, hcur6, HV5.out.cs⟩, hown6, hbel6⟩, ?_⟩
        · rw [List.length_append, List.length_singleton]
          omega
        · rw [hm6, HMS.out]
          split
          · rename_i h40
            have := (HGO.out h40).1
            omega
          · omega
end Go.Proofs.Ytdjbgojdkaipfaa
