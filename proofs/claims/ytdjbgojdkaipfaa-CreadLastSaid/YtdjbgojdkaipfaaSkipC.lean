/-
  Walks of package cskip: maps and structs, where the ways of one level less are known.
-/
import Derived.Test.YtdjbgojdkaipfaaSkipB
namespace Go.Proofs.Ytdjbgojdkaipfaa
open Go.RowKit

theorem mapR_bd (a : List UInt8) : 0 ≤ (mapR a).2.2.1 ∧ (mapR a).2.2.1 ≤ 2147483647 ∧ 0 ≤ (mapR a).2.2.2.1 ∧ (mapR a).2.2.2.1 ≤ 15 ∧ 0 ≤ (mapR a).2.2.2.2 ∧ (mapR a).2.2.2.2 ≤ 15 := by
  have hz : (0 : Int) ≤ 0 ∧ (0 : Int) ≤ 2147483647 ∧ (0 : Int) ≤ 0 ∧ (0 : Int) ≤ 15 ∧ (0 : Int) ≤ 0 ∧ (0 : Int) ≤ 15 := by decide
  have hs := sizeR_bd a
  unfold mapR
  split
  · split
    · exact hz
    · cases a.drop (sizeR a).2.1 with
      | nil => exact hz
      | cons b r =>
        have h1 := bi_lo b
        have h2 := bi_hi b
        simp only [mapR2]
        split
        · exact ⟨hs.1, hs.2.1, by show 0 ≤ bi b / 16; omega, by show bi b / 16 ≤ 15; omega, by show 0 ≤ bi b % 16; omega, by show bi b % 16 ≤ 15; omega⟩
        · exact hz
  · exact hz
theorem Left.step2 {T R1 R2 G : List UInt8 → Int × Nat} {c0 c c1 c2 : Cu} (h : Left T (fun a => seqR (seqR (R1 a) R2 a) G a) c0 c) (h1 : RdF R1 c c1) (h2 : RdF R2 c1 c2) : Left T G c0 c2 :=
  ⟨h2.fit, fun c' h' => h.2 c' ((h1.seq h2).seq h')⟩
set_option maxRecDepth 100000 in
set_option maxHeartbeats 1000000 in
theorem entries_of {n : Nat} (hi : InOk n) (b : Nat) (c : Cu) (deep : Int) (w : World) (hc : CurAt w b c) (hf : c.fit) (d0 : 0 ≤ deep) (d1 : deep ≤ 999) (hn : (32 - (deep + 1)).toNat = n) :
    Calls Try.prog 156 #[Kv b, .int .i64 deep] w fun e w' => KPost (mapsR (skipV n)) b c w e w' := by
  have HI := hid hi
  have HN := hid hn
  have hB := Bx.new hc
  have h0 := hB.cell
  have HB := hid hB
  clear hc hB hi hn
  have hwd : IntKind.i64.wrap (deep + 1) = deep + 1 := by rw [IntKind.wrap_i64]; omega
  unfold Kv
  go_enter Try.func156, Try.ntmps156
  go_wp2_with fail
  refine (maphead_any b c _ HB.out.cur hf).mono ?_; rintro e w1 ⟨c1, m, kind, val, rfl, hv, hvb, hvg, hc1, hg1⟩
  have HB1 := hid (HB.out.move hc1 hg1)
  have hL : ∃ M : Nat, m = (M : Int) ∧ m ≤ 2147483647 ∧ 0 ≤ kind ∧ kind ≤ 255 ∧ 0 ≤ val ∧ val ≤ 255 ∧ Left (mapsR (skipV n)) (itemsR (pairR (skipV n) kind val) M) c c1 := by
    by_cases h0 : c.code = 0
    · obtain ⟨e1, e2, e3⟩ := hvg h0
      obtain ⟨b0, b1, b2, b3, b4, b5⟩ := mapR_bd c.ahead
      refine ⟨m.toNat, by omega, by omega, by omega, by omega, by omega, by omega, hv.fit, fun c' h' => ?_⟩
      have hs : RdF (fun a => ((mapR a).1, (mapR a).2.1)) c c1 := hv
      exact (hs.seq h').congr (by simp only [mapsR, e1, e2, e3])
    · obtain ⟨e1, e2, e3⟩ := hvb h0
      rw [hv.bad h0]
      exact ⟨0, by omega, by omega, by omega, by omega, by omega, by omega, left_zero hf h0⟩
  obtain ⟨M, rfl, hm, k0, k1, v0, v1, hL⟩ := hL
  have hrel0 : LRel (mapsR (skipV n)) (pairR (skipV n) kind val) M w b c (.int .i64 0) w1 := ⟨0, c1, Nat.zero_le _, rfl, hL, HB1.out |> hid⟩
  clear hv hvb hvg hc1 hg1 h0 HB HB1 hL
  go_wp2_with fail
  go_loopw [7] (fun i wr => LRel (mapsR (skipV n)) (pairR (skipV n) kind val) M w b c i wr) (fun i _ => M - (intOf i).toNat)
  case atStart => exact hrel0
  case round =>
    clear hrel0
    obtain ⟨k, ci, hk, rfl, HL, HBi⟩ := hrel
    have hcell := HBi.out.cell
    by_cases hlt : k < M
    · go_wp2_with fail
      refine (right_any b _ _ HBi.out.cur).mono ?_; rintro e w2 ⟨rfl, hw2⟩
      have HB2 := hid (HBi.out.ext hw2)
      have h2 := HB2.out.cell
      clear hw2 hcell
      by_cases hz : ci.code = 0
      · have hz1 : (ci.code == 0) = true := by simpa using hz
        have HL2 := hid (show Left (mapsR (skipV n)) (fun a => seqR (seqR (innerR (skipV n) kind a) (innerR (skipV n) val) a) (itemsR (pairR (skipV n) kind val) (M - (k + 1))) a) c ci by
          have := HL.out
          rw [show M - k = (M - (k + 1)) + 1 by omega] at this
          exact this)
        clear hz HL
        go_wp2_with fail
        refine (HI.out b ci kind (deep + 1) _ HB2.out.cur HL2.out.1 k0 k1 (by omega) (by omega) HN.out).mono ?_; rintro e w3 ⟨c3, rfl, hr3, hc3, hg3⟩
        have HB3 := hid (HB2.out.move hc3 hg3)
        have HR3 := hid hr3
        have h3 := HB3.out.cell
        clear hr3 hc3 hg3 HB2 h2
        go_wp2_with fail
        refine (HI.out b c3 val (deep + 1) _ HB3.out.cur HR3.out.fit v0 v1 (by omega) (by omega) HN.out).mono ?_; rintro e w4 ⟨c4, rfl, hr4, hc4, hg4⟩
        have HB4 := hid (HB3.out.move hc4 hg4)
        have HL4 := hid (HL2.out.step2 HR3.out hr4)
        clear hr4 hc4 hg4 HB3 h3 HL2 HR3
        go_wp2_with fail
        go_roundw
        case rel => exact ⟨k + 1, c4, by omega, by go_num, HL4, HB4⟩
        case measure => simp [intOf] <;> omega
      · have hz1 : (ci.code == 0) = false := by simpa using hz
        have HZ := hid hz
        clear hz
        go_wp2_with fail
        go_end0
        exact KPost.mk (HL.out.stop HZ.out) HB2.out
    · have hkM : k = M := by omega
      subst hkM
      go_wp2_with fail
      go_end0
      exact KPost.mk (by have := HL.out; rw [Nat.sub_self] at this; exact this.done) HBi.out
/-- What is left of a cursor, by its block: 0 where something is wrong. -/
def rest (w : World) (b : Nat) : Nat := match w.cell? ⟨b, 1, none⟩, w.cell? ⟨b, 2, none⟩, w.cell? ⟨b, 3, none⟩ with
  | some (.int _ p), some (.int _ e), some (.int _ k) => if k = 0 then (e - p).toNat + 1 else 0
  | _, _, _ => 0
theorem rest_at {w : World} {b : Nat} {c : Cu} (h : CurAt w b c) : rest w b = if c.code = 0 then c.en - c.pos + 1 else 0 := by
  unfold rest
  rw [h.cell 1, h.cell 2, h.cell 3]
  show (if c.code = 0 then ((c.en : Int) - (c.pos : Int)).toNat + 1 else 0) = _
  split
  · omega
  · rfl
theorem fieldR_ok (last : Int) (a : List UInt8) (h : (fieldR last a).2.2.2 ≠ 0) : (fieldR last a).1 = 0 := by
  cases a with
  | nil => exact absurd rfl h
  | cons b r =>
    revert h
    simp only [fieldR]
    split
    · intro _; rfl
    · split
      · intro h; exact absurd rfl h
      · split
        · split
          · intro _; rfl
          · intro h; exact absurd rfl h
        · split
          · split
            · intro _; rfl
            · intro h; exact absurd rfl h
          · intro h; exact absurd rfl h
def FRl (T : List UInt8 → Int × Nat) (v : Int → List UInt8 → Int × Nat) (w : World) (b : Nat) (c0 : Cu) (last : Value) (wr : World) : Prop :=
  ∃ (L : Int) (c : Cu) (n : Nat), last = .int .i64 L ∧ -32768 ≤ L ∧ L ≤ 32767 ∧ Hid (c.code = 0 → c.ahead.length < n) ∧ Hid (Left T (fieldsR v n L) c0 c) ∧ Hid (Bx w wr b c)
theorem struct_start {v : Int → List UInt8 → Int × Nat} {c : Cu} (hf : c.fit) : Left (structR v) (fieldsR v (c.ahead.length + 1) 0) c c :=
  ⟨hf, fun _ h' => h'⟩
set_option maxRecDepth 100000 in
set_option maxHeartbeats 2000000 in
theorem fields_of {n : Nat} (hv : ValOk n) (b : Nat) (c : Cu) (deep : Int) (w : World) (hc : CurAt w b c) (hf : c.fit) (d0 : 0 ≤ deep) (d1 : deep ≤ 999) (hn : (32 - (deep + 1)).toNat = n) :
    Calls Try.prog 157 #[Kv b, .int .i64 deep] w fun e w' => KPost (structR (skipV n)) b c w e w' := by
  have HV := hid hv
  have HN := hid hn
  have hB := Bx.new hc
  have h0 := hB.cell
  have hrel0 : FRl (structR (skipV n)) (skipV n) w b c (.int .i64 0) (w.alloc (.cells #[.pointer (some ⟨b, 0, none⟩)] 171)) :=
    ⟨0, c, c.ahead.length + 1, rfl, by decide, by decide, hid (fun _ => by omega), hid (struct_start hf), hid hB⟩
  clear hc hB hv hn
  have hwd : IntKind.i64.wrap (deep + 1) = deep + 1 := by rw [IntKind.wrap_i64]; omega
  unfold Kv
  go_enter Try.func157, Try.ntmps157
  go_wp2_with fail
  go_loopw [4] (fun l wr => FRl (structR (skipV n)) (skipV n) w b c l wr) (fun _ wr => rest wr b)
  case atStart => exact hrel0
  case round =>
    clear hrel0 h0
    obtain ⟨L, ci, m, rfl, l0, l1, HM, HL, HBi⟩ := hrel
    have hcell := HBi.out.cell
    go_wp2_with fail
    refine (right_any b _ _ HBi.out.cur).mono ?_; rintro e w2 ⟨rfl, hw2⟩
    have HB2 := hid (HBi.out.ext hw2)
    have h2 := HB2.out.cell
    have hms := rest_at HBi.out.cur
    clear hw2 hcell
    by_cases hz : ci.code = 0
    case neg =>
      have hz1 : (ci.code == 0) = false := by simpa using hz
      have HZ := hid hz
      clear hz hms
      go_wp2_with fail
      go_end0
      exact KPost.mk (HL.out.stop HZ.out) HB2.out
    have hz1 : (ci.code == 0) = true := by simpa using hz
    have hal := ahead_length HL.out.1
    have hmm := HM.out hz
    have HZ := hid hz
    rw [if_pos hz] at hms
    have HMS := hid hms
    clear hz hms
    go_wp2_with fail
    refine (field_any b ci L _ HB2.out.cur HL.out.1 (by omega) (by omega)).mono ?_; rintro e w3 ⟨c3, id, kind, rfl, hv3, hvb, hvg, hc3, hg3⟩
    obtain ⟨e1, e2⟩ := hvg HZ.out
    obtain ⟨hk0, hk1⟩ := fieldR_kind L ci.ahead
    have hbd := fieldR_id L ci.ahead
    have HB3 := hid (HB2.out.move hc3 hg3)
    have h3 := HB3.out.cell
    have HV3 := hid (show RdF (fun a => ((fieldR L a).1, (fieldR L a).2.1)) ci c3 from hv3)
    have HE1 := hid e1
    have HE2 := hid e2
    rw [← e2] at hk0 hk1
    rw [← e1] at hbd
    clear hv3 hvb hvg hc3 hg3 h2 HB2 e1 e2
    by_cases hks : kind = 0
    · subst hks
      have hfin : RdF (structR (skipV n)) c c3 := by
        obtain ⟨q, rfl⟩ : ∃ q, m = q + 1 := ⟨m - 1, by omega⟩
        refine HL.out.2 c3 (show Rd _ _ _ _ from ?_)
        have hr : Rd ci c3 (fieldR L ci.ahead).1 (fieldR L ci.ahead).2.1 := HV3.out
        rw [fieldsR]
        by_cases hc0 : (fieldR L ci.ahead).1 = 0
        · rw [if_pos hc0, if_pos HE2.out.symm]
          rw [hc0] at hr
          exact hr
        · rw [if_neg hc0]
          exact ⟨hr.s, hr.en, hr.fit, hr.bad, fun hh => ⟨(hr.good hh).1, fun hz => absurd hz hc0⟩⟩
      have HFIN := hid hfin
      clear hfin
      go_wp2_with fail
      go_end0
      exact KPost.mk HFIN.out HB3.out
    · have hkn : (kind == 0) = false := by simpa using hks
      have HKS := hid hks
      clear hks
      go_wp2_with fail
      refine (HV.out b c3 kind (deep + 1) _ HB3.out.cur HV3.out.fit hk0 (by omega) (by omega) (by omega) HN.out).mono ?_; rintro e w4 ⟨c4, rfl, hr4, hc4, hg4⟩
      have HB4 := hid (HB3.out.move hc4 hg4)
      have HR4 := hid hr4
      have hm4 := rest_at HB4.out.cur
      have hc0 : (fieldR L ci.ahead).1 = 0 := fieldR_ok L ci.ahead (by rw [← HE2.out]; exact HKS.out)
      obtain ⟨p1, p2⟩ := fieldR_pos L ci.ahead hc0
      have hgo : c4.code = 0 → c4.ahead.length < m - 1 ∧ c4.en - c4.pos < ci.en - ci.pos := by
        intro h40
        obtain ⟨g1, g2⟩ := HV3.out.good HZ.out
        have e3 := g2 hc0
        have h30 : c3.code = 0 := g1.trans hc0
        obtain ⟨t1, t2⟩ := hr4.good h30
        have e4 := t2 (t1.symm.trans h40)
        have hl4 := ahead_length hr4.fit
        have q1 : c4.pos = ci.pos + (fieldR L ci.ahead).2.1 + (skipV n kind c3.ahead).2 := by rw [e4, e3]
        have q2 : c4.en = ci.en := by rw [e4, e3]
        omega
      have HGO := hid hgo
      have HC0 := hid hc0
      have HNK := hid (show ¬ (fieldR L ci.ahead).2.2.2 = 0 by rw [← HE2.out]; exact HKS.out)
      clear hr4 hc4 hg4 HB3 h3 hgo hc0 p1 p2
      go_wp2_with fail
      go_roundw
      case rel =>
        obtain ⟨q, rfl⟩ : ∃ q, m = q + 1 := ⟨m - 1, by omega⟩
        exact ⟨id, c4, q, rfl, hbd.1, hbd.2, hid (fun h40 => (HGO.out h40).1), hid ⟨HR4.out.fit, fun c' h' => HL.out.2 c' ((HV3.out.seq (HR4.out.seq h')).congr (by
          simp only [fieldsR, seqR, if_pos HC0.out, if_neg HNK.out, if_true, HE1.out, HE2.out]))⟩, HB4⟩
      case measure =>
        rw [hm4, HMS.out]
        split
        · rename_i h40
          have := (HGO.out h40).2
          omega
        · omega
end Go.Proofs.Ytdjbgojdkaipfaa
