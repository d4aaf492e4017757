/-
  Walks of the document's answer for chapter 22: bits, of, fits. (printed by gencrof.py)
-/
import Derived.Test.YtdjbgojdkaipfaaCreadE
import Derived.Test.YtdjbgojdkaipfaaWordRef
import Derived.Test.YtdjbgojdkaipfaaSkipRefD
import Derived.Test.YtdjbgojdkaipfaaLayRef
import Derived.Deep.DeepCutAuto
namespace Go.Proofs.Ytdjbgojdkaipfaa
open Go.RowKit

theorem below_put {B g : Nat} {a u : World} (h : Below B a u) (hg : B ≤ g) (o : Nat) (v : Value) : Below B a (u.setCell ⟨g, o, none⟩ v) := by
  have hg' : B ≤ (⟨g, o, none⟩ : Addr).block := hg
  with_reducible exact Below.setCell h hg' v
set_option maxRecDepth 100000 in
theorem rbits_any (k : Int) (w : World) :
    Calls Try.prog 165 #[.int .u8 k] w fun e w' => e = .returned (.int .i64 (bitsK k)) ∧ w = w' := by
  by_cases h4 : k = 4
  · subst h4
    go_enter Try.func165, Try.ntmps165
    go_wp2
    go_ret
    exact ⟨rfl, rfl⟩
  by_cases h5 : k = 5
  · subst h5
    go_enter Try.func165, Try.ntmps165
    go_wp2
    go_ret
    exact ⟨rfl, rfl⟩
  by_cases h6 : k = 6
  · subst h6
    go_enter Try.func165, Try.ntmps165
    go_wp2
    go_ret
    exact ⟨rfl, rfl⟩
  have HB := hid (show bitsK k = 0 by unfold bitsK; rw [if_neg h4, if_neg h5, if_neg h6])
  have q4 : (k == 4) = false := by simpa using h4
  have q5 : (k == 5) = false := by simpa using h5
  have q6 : (k == 6) = false := by simpa using h6
  clear h4 h5 h6
  go_enter Try.func165, Try.ntmps165
  go_wp2
  go_ret
  exact ⟨by rw [HB.out]; rfl, rfl⟩
theorem blk6 {w : World} {g : Nat} {t : TypeId} {a0 a1 a2 a3 a4 a5 : Value} (h : Blk w g t #[a0, a1, a2, a3, a4, a5]) :
    w.cell? ⟨g, 0, none⟩ = some a0 ∧ w.cell? ⟨g, 1, none⟩ = some a1 ∧ w.cell? ⟨g, 2, none⟩ = some a2 ∧ w.cell? ⟨g, 3, none⟩ = some a3 ∧ w.cell? ⟨g, 4, none⟩ = some a4 ∧ w.cell? ⟨g, 5, none⟩ = some a5 ∧
    w.frozen? ⟨g, 0, none⟩ = false ∧ w.frozen? ⟨g, 1, none⟩ = false ∧ w.frozen? ⟨g, 2, none⟩ = false ∧ w.frozen? ⟨g, 3, none⟩ = false ∧ w.frozen? ⟨g, 4, none⟩ = false ∧ w.frozen? ⟨g, 5, none⟩ = false :=
  ⟨h.cell 0, h.cell 1, h.cell 2, h.cell 3, h.cell 4, h.cell 5, h.frozen 0, h.frozen 1, h.frozen 2, h.frozen 3, h.frozen 4, h.frozen 5⟩
def OPst (F : Fd) (w : World) (e : Ending) (w' : World) : Prop := e = .returned (.agg F.cells) ∧ Below w.heap.size w w'
set_option maxRecDepth 100000 in
set_option maxHeartbeats 1000000 in
theorem rof_any (id kind : Int) (v : List UInt8) (w : World) (hv : v.length ≤ 100000) (h3 : kind = 3 → 1 ≤ v.length) (h7 : kind = 7 → v.length ≤ 8) (h8 : kind = 8 → vcode v = 0) :
    Calls Try.prog 136 #[.int .i64 id, .int .u8 kind, Sv v] w fun e w' => OPst (contF id kind v) w e w' := by
  have hfit : (Cu.start v).fit := ⟨Nat.zero_le _, Nat.le_refl _, by show v.length ≤ _; omega⟩
  have hah : (Cu.start v).ahead = v := by show (v.take v.length).drop 0 = v; rw [List.take_length]; rfl
  go_enter Try.func136, Try.ntmps136
  go_wp2_with fail
  refine (rnew_any v _).mono ?_; rintro e w1 ⟨rfl, hw1⟩
  obtain ⟨hA, hB, z0, z1, hbw⟩ := box2 hw1
  have HA := hid (Blk.alloc hA (.cells #[Sv v, .int .i64 0, .int .i64 v.length, .int .i64 0] 78))
  have HB := hid (Blk.alloc hB (.cells #[Sv v, .int .i64 0, .int .i64 v.length, .int .i64 0] 78))
  have HC := hid (Blk.new w1 78 #[Sv v, .int .i64 0, .int .i64 v.length, .int .i64 0])
  have HBW := hid (Below.alloc hbw hbw.size (.cells #[Sv v, .int .i64 0, .int .i64 v.length, .int .i64 0] 78))
  have hcb : w.heap.size + 1 < w1.heap.size := z1
  clear hA hB z0 z1 hbw hw1
  unfold agg Cu.start
  go_upto_region 3 with fail
  generalize w1.alloc (.cells #[Sv v, .int .i64 0, .int .i64 v.length, .int .i64 0] 78) = W2 at HA HB HC HBW ⊢
  generalize w1.heap.size = cb at HC hcb ⊢
  have hA6 := HA.out
  have hB6 := HB.out
  by_cases hk1 : kind = 1
  · subst hk1
    have HCF := hid (show contF id 1 v = ⟨id, 1, 1, 0, [], []⟩ from rfl)
    obtain ⟨p0, p1, p2, p3, p4, p5, f0, f1, f2, f3, f4, f5⟩ := blk6 (HB.out)
    obtain ⟨r0, r1, r2, r3, r4, r5, e0, e1, e2, e3, e4, e5⟩ := blk6 (HA.out)
    go_wp2_with fail
    exact bodyPost_ret (v := .agg #[.int .i64 id, .int .u8 1, .int .i64 1, .int .u64 0, Sv [], Sv []]) (by simp only [results, Try.results136]; go_simp) rfl ⟨by rw [HCF.out]; rfl, by repeat (first | (with_reducible exact HBW.out) | (with_reducible refine below_put ?_ (by omega) _ _))⟩
  by_cases hk3 : kind = 3
  · subst hk3
    have HCF := hid (show contF id 3 v = ⟨id, 3, wideN (byteAt v 0) 8, 0, [], []⟩ from rfl)
    have hl := h3 rfl
    have b0 := byteAt_lo v 0
    have b1 := byteAt_hi v 0
    obtain ⟨p0, p1, p2, p3, p4, p5, f0, f1, f2, f3, f4, f5⟩ := blk6 (HB.out)
    obtain ⟨r0, r1, r2, r3, r4, r5, e0, e1, e2, e3, e4, e5⟩ := blk6 (HA.out)
    go_wp2_with fail
    refine (rwide_any (byteAt v 0) 8 _ b0 (by omega) (by decide) (by decide)).mono ?_; rintro e w3 ⟨rfl, rfl⟩
    go_wp2_with fail
    exact bodyPost_ret (v := .agg #[.int .i64 id, .int .u8 3, .int .i64 (wideN (byteAt v 0) 8), .int .u64 0, Sv [], Sv []]) (by simp only [results, Try.results136]; go_simp) rfl ⟨by rw [HCF.out]; rfl, by repeat (first | (with_reducible exact HBW.out) | (with_reducible refine below_put ?_ (by omega) _ _))⟩
  by_cases hk4 : kind = 4
  · subst hk4
    have HCF := hid (show contF id 4 v = ⟨id, 4, zagV (vnum v), 0, [], []⟩ from rfl)
    obtain ⟨c0, c1, c2, c3, _, _, _, _⟩ := blk4 HC.out
    clear hA6 hB6
    go_wp2_with fail
    refine (rbits_any 4 _).mono ?_; rintro e w3 ⟨rfl, rfl⟩
    rw [show bitsK 4 = 16 from rfl]
    go_wp2_with fail
    refine (rvread_any (Cu.start v) _ hfit).mono ?_; rintro e w4 ⟨c', u, rfl, hvr, hw4⟩
    have hu : u = vnum v := by rw [(hvr.good rfl).2.1, hah]
    subst hu
    obtain ⟨u0, u1⟩ := vnum_bd v
    obtain ⟨z0, z1⟩ := zag_bd u0 u1
    have HA4 := hid (Blk.alloc (HA.out.below hw4 HA.out.lt) (.cells #[Sv c'.s, .int .i64 c'.pos, .int .i64 c'.en, .int .i64 c'.code] 78))
    have HB4 := hid (Blk.alloc (HB.out.below hw4 HB.out.lt) (.cells #[Sv c'.s, .int .i64 c'.pos, .int .i64 c'.en, .int .i64 c'.code] 78))
    have HBW4 := hid (Below.alloc (HBW.out.trans (hw4.mono HBW.out.size)) (HBW.out.trans (hw4.mono HBW.out.size)).size (.cells #[Sv c'.s, .int .i64 c'.pos, .int .i64 c'.en, .int .i64 c'.code] 78))
    obtain ⟨p0, p1, p2, p3, p4, p5, f0, f1, f2, f3, f4, f5⟩ := blk6 (HB4.out)
    obtain ⟨r0, r1, r2, r3, r4, r5, e0, e1, e2, e3, e4, e5⟩ := blk6 (HA4.out)
    clear hvr hw4
    unfold agg
    go_wp2_with fail
    refine (rzag_any (vnum v) _ u0 u1).mono ?_; rintro e w5 ⟨rfl, rfl⟩
    go_wp2_with fail
    exact bodyPost_ret (v := .agg #[.int .i64 id, .int .u8 4, .int .i64 (zagV (vnum v)), .int .u64 0, Sv [], Sv []]) (by simp only [results, Try.results136]; go_simp) rfl ⟨by rw [HCF.out]; rfl, by repeat (first | (with_reducible exact HBW4.out) | (with_reducible refine below_put ?_ (by omega) _ _))⟩
  by_cases hk5 : kind = 5
  · subst hk5
    have HCF := hid (show contF id 5 v = ⟨id, 5, zagV (vnum v), 0, [], []⟩ from rfl)
    obtain ⟨c0, c1, c2, c3, _, _, _, _⟩ := blk4 HC.out
    clear hA6 hB6
    go_wp2_with fail
    refine (rbits_any 5 _).mono ?_; rintro e w3 ⟨rfl, rfl⟩
    rw [show bitsK 5 = 32 from rfl]
    go_wp2_with fail
    refine (rvread_any (Cu.start v) _ hfit).mono ?_; rintro e w4 ⟨c', u, rfl, hvr, hw4⟩
    have hu : u = vnum v := by rw [(hvr.good rfl).2.1, hah]
    subst hu
    obtain ⟨u0, u1⟩ := vnum_bd v
    obtain ⟨z0, z1⟩ := zag_bd u0 u1
    have HA4 := hid (Blk.alloc (HA.out.below hw4 HA.out.lt) (.cells #[Sv c'.s, .int .i64 c'.pos, .int .i64 c'.en, .int .i64 c'.code] 78))
    have HB4 := hid (Blk.alloc (HB.out.below hw4 HB.out.lt) (.cells #[Sv c'.s, .int .i64 c'.pos, .int .i64 c'.en, .int .i64 c'.code] 78))
    have HBW4 := hid (Below.alloc (HBW.out.trans (hw4.mono HBW.out.size)) (HBW.out.trans (hw4.mono HBW.out.size)).size (.cells #[Sv c'.s, .int .i64 c'.pos, .int .i64 c'.en, .int .i64 c'.code] 78))
    obtain ⟨p0, p1, p2, p3, p4, p5, f0, f1, f2, f3, f4, f5⟩ := blk6 (HB4.out)
    obtain ⟨r0, r1, r2, r3, r4, r5, e0, e1, e2, e3, e4, e5⟩ := blk6 (HA4.out)
    clear hvr hw4
    unfold agg
    go_wp2_with fail
    refine (rzag_any (vnum v) _ u0 u1).mono ?_; rintro e w5 ⟨rfl, rfl⟩
    go_wp2_with fail
    exact bodyPost_ret (v := .agg #[.int .i64 id, .int .u8 5, .int .i64 (zagV (vnum v)), .int .u64 0, Sv [], Sv []]) (by simp only [results, Try.results136]; go_simp) rfl ⟨by rw [HCF.out]; rfl, by repeat (first | (with_reducible exact HBW4.out) | (with_reducible refine below_put ?_ (by omega) _ _))⟩
  by_cases hk6 : kind = 6
  · subst hk6
    have HCF := hid (show contF id 6 v = ⟨id, 6, zagV (vnum v), 0, [], []⟩ from rfl)
    obtain ⟨c0, c1, c2, c3, _, _, _, _⟩ := blk4 HC.out
    clear hA6 hB6
    go_wp2_with fail
    refine (rbits_any 6 _).mono ?_; rintro e w3 ⟨rfl, rfl⟩
    rw [show bitsK 6 = 64 from rfl]
    go_wp2_with fail
    refine (rvread_any (Cu.start v) _ hfit).mono ?_; rintro e w4 ⟨c', u, rfl, hvr, hw4⟩
    have hu : u = vnum v := by rw [(hvr.good rfl).2.1, hah]
    subst hu
    obtain ⟨u0, u1⟩ := vnum_bd v
    obtain ⟨z0, z1⟩ := zag_bd u0 u1
    have HA4 := hid (Blk.alloc (HA.out.below hw4 HA.out.lt) (.cells #[Sv c'.s, .int .i64 c'.pos, .int .i64 c'.en, .int .i64 c'.code] 78))
    have HB4 := hid (Blk.alloc (HB.out.below hw4 HB.out.lt) (.cells #[Sv c'.s, .int .i64 c'.pos, .int .i64 c'.en, .int .i64 c'.code] 78))
    have HBW4 := hid (Below.alloc (HBW.out.trans (hw4.mono HBW.out.size)) (HBW.out.trans (hw4.mono HBW.out.size)).size (.cells #[Sv c'.s, .int .i64 c'.pos, .int .i64 c'.en, .int .i64 c'.code] 78))
    obtain ⟨p0, p1, p2, p3, p4, p5, f0, f1, f2, f3, f4, f5⟩ := blk6 (HB4.out)
    obtain ⟨r0, r1, r2, r3, r4, r5, e0, e1, e2, e3, e4, e5⟩ := blk6 (HA4.out)
    clear hvr hw4
    unfold agg
    go_wp2_with fail
    refine (rzag_any (vnum v) _ u0 u1).mono ?_; rintro e w5 ⟨rfl, rfl⟩
    go_wp2_with fail
    exact bodyPost_ret (v := .agg #[.int .i64 id, .int .u8 6, .int .i64 (zagV (vnum v)), .int .u64 0, Sv [], Sv []]) (by simp only [results, Try.results136]; go_simp) rfl ⟨by rw [HCF.out]; rfl, by repeat (first | (with_reducible exact HBW4.out) | (with_reducible refine below_put ?_ (by omega) _ _))⟩
  by_cases hk7 : kind = 7
  · subst hk7
    have HCF := hid (show contF id 7 v = ⟨id, 7, 0, valL v, [], []⟩ from rfl)
    have hl := h7 rfl
    obtain ⟨p0, p1, p2, p3, p4, p5, f0, f1, f2, f3, f4, f5⟩ := blk6 (HB.out)
    obtain ⟨r0, r1, r2, r3, r4, r5, e0, e1, e2, e3, e4, e5⟩ := blk6 (HA.out)
    go_wp2_with fail
    refine (rbits_any 7 _).mono ?_; rintro e w3 ⟨rfl, rfl⟩
    rw [show bitsK 7 = 0 from rfl]
    go_wp2_with fail
    refine (roflow_any v _ hl).mono ?_; rintro e w4 ⟨rfl, rfl⟩
    go_wp2_with fail
    exact bodyPost_ret (v := .agg #[.int .i64 id, .int .u8 7, .int .i64 0, .int .u64 (valL v), Sv [], Sv []]) (by simp only [results, Try.results136]; go_simp) rfl ⟨by rw [HCF.out]; rfl, by repeat (first | (with_reducible exact HBW.out) | (with_reducible refine below_put ?_ (by omega) _ _))⟩
  by_cases hk8 : kind = 8
  · subst hk8
    have HCF := hid (show contF id 8 v = ⟨id, 8, 0, 0, v.drop (vlen 10 v), []⟩ from rfl)
    have hv0 := h8 rfl
    obtain ⟨c0, c1, c2, c3, _, _, _, _⟩ := blk4 HC.out
    clear hA6 hB6
    go_wp2_with fail
    refine (rbits_any 8 _).mono ?_; rintro e w3 ⟨rfl, rfl⟩
    rw [show bitsK 8 = 0 from rfl]
    go_wp2_with fail
    refine (rvread_any (Cu.start v) _ hfit).mono ?_; rintro e w4 ⟨c', u, rfl, hvr, hw4⟩
    obtain ⟨_, _, hvp⟩ := hvr.good rfl
    rw [hah] at hvp
    obtain rfl := hvp hv0
    have hvl := vlen_le 10 v
    have HA4 := hid (HA.out.below hw4 HA.out.lt)
    have HB4 := hid (HB.out.below hw4 HB.out.lt)
    have HC4 := hid (HC.out.below hw4 HC.out.lt)
    have HBW4 := hid (HBW.out.trans (hw4.mono HBW.out.size))
    obtain ⟨d0, d1, d2, d3, k0, k1, k2, k3⟩ := blk4 HC4.out
    clear c0 c1 c2 c3
    obtain ⟨p0, p1, p2, p3, p4, p5, f0, f1, f2, f3, f4, f5⟩ := blk6 (HB4.out)
    obtain ⟨r0, r1, r2, r3, r4, r5, e0, e1, e2, e3, e4, e5⟩ := blk6 (HA4.out)
    clear hvr hw4 hvp hv0
    have hne1 : cb ≠ w.heap.size := by omega
    have hne2 : cb ≠ w.heap.size + 1 := by omega
    unfold agg Cu.start
    simp only [Nat.zero_add]
    have qa : (0 : Int) ≤ (vlen 10 v : Int) ∧ (vlen 10 v : Int) ≤ (v.length : Int) := by omega
    go_wp2_with fail
    exact bodyPost_ret (v := .agg #[.int .i64 id, .int .u8 8, .int .i64 0, .int .u64 0, Sv (v.drop (vlen 10 v)), Sv []]) (by simp only [results, Try.results136]; go_simp) rfl ⟨by rw [HCF.out]; rfl, by repeat (first | (with_reducible exact HBW4.out) | (with_reducible refine below_put ?_ (by omega) _ _))⟩
  have n1 : (kind == 1) = false := by simpa using hk1
  have n3 : (kind == 3) = false := by simpa using hk3
  have n7 : (kind == 7) = false := by simpa using hk7
  have n8 : (kind == 8) = false := by simpa using hk8
  have HBT := hid (show bitsK kind = 0 by unfold bitsK; rw [if_neg hk4, if_neg hk5, if_neg hk6])
  obtain ⟨p0, p1, p2, p3, p4, p5, f0, f1, f2, f3, f4, f5⟩ := blk6 (HB.out)
  obtain ⟨r0, r1, r2, r3, r4, r5, e0, e1, e2, e3, e4, e5⟩ := blk6 (HA.out)
  by_cases h9 : 9 ≤ kind
  · have HCF := hid (show contF id kind v = ⟨id, kind, 0, 0, [], v⟩ by unfold contF; rw [if_neg hk1, if_neg hk3, if_neg (by omega), if_neg hk7, if_neg hk8, if_pos h9])
    clear hk1 hk3 hk4 hk5 hk6 hk7 hk8
    go_wp2_with fail
    refine (rbits_any kind _).mono ?_; rintro e w3 ⟨rfl, rfl⟩
    rw [HBT.out]
    go_wp2_with fail
    exact bodyPost_ret (v := .agg #[.int .i64 id, .int .u8 kind, .int .i64 0, .int .u64 0, Sv [], Sv v]) (by simp only [results, Try.results136]; go_simp) rfl ⟨by rw [HCF.out]; rfl, by repeat (first | (with_reducible exact HBW.out) | (with_reducible refine below_put ?_ (by omega) _ _))⟩
  · have HCF := hid (show contF id kind v = ⟨id, kind, 0, 0, [], []⟩ by unfold contF; rw [if_neg hk1, if_neg hk3, if_neg (by omega), if_neg hk7, if_neg hk8, if_neg h9])
    clear hk1 hk3 hk4 hk5 hk6 hk7 hk8
    go_wp2_with fail
    refine (rbits_any kind _).mono ?_; rintro e w3 ⟨rfl, rfl⟩
    rw [HBT.out]
    go_wp2_with fail
    exact bodyPost_ret (v := .agg #[.int .i64 id, .int .u8 kind, .int .i64 0, .int .u64 0, Sv [], Sv []]) (by simp only [results, Try.results136]; go_simp) rfl ⟨by rw [HCF.out]; rfl, by repeat (first | (with_reducible exact HBW.out) | (with_reducible refine below_put ?_ (by omega) _ _))⟩
end Go.Proofs.Ytdjbgojdkaipfaa
