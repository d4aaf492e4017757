/-
  Walks of package ident: names of numbers, and numbers of names.
-/
import Derived.Test.YtdjbgojdkaipfaaDoorIdentLaw
import Derived.Test.YtdjbgojdkaipfaaDoorLay
import Derived.Test.YtdjbgojdkaipfaaDoorLayRef
import Derived.Test.YtdjbgojdkaipfaaDoorSteady
namespace Go.Proofs.YtdjbgojdkaipfaaDoor
open Go.RowKit

theorem low_val (l : List UInt8) : lowB (valL l) l.length = l := by
  induction l with
  | nil => rfl
  | cons x l ih =>
    have hx : 0 ≤ bi x ∧ bi x ≤ 255 := bi_lt x
    show bt ((bi x + 256 * valL l) % 256) :: lowB ((bi x + 256 * valL l) / 256) l.length = x :: l
    rw [show (bi x + 256 * valL l) % 256 = bi x by omega, show (bi x + 256 * valL l) / 256 = valL l by omega, ih, bt_bi]
theorem high_val (l : List UInt8) {n : Nat} (hn : l.length = n) : highB (valH l) n = l := by
  subst hn
  have := low_val l.reverse
  rw [List.length_reverse] at this
  unfold highB valH
  rw [this, List.reverse_reverse]
theorem valH_bd8 (l : List UInt8) (h : l.length = 8) : 0 ≤ valH l ∧ valH l ≤ 18446744073709551615 := by
  have h1 := valL_nonneg l.reverse
  have h2 := valL_lt_le l.reverse 8 (by simp [h])
  unfold valH
  have : (256 : Int) ^ 8 = 18446744073709551616 := by decide
  omega
theorem own_pt {w : World} {B n : Nat} {v : Value} {l : List UInt8} (h : Own w B v l) (hl : l.length = n) (hn : 0 < n) : ∃ g cap, v = .slice (some ⟨g, 0, none⟩) n cap ∧ w.rangeAt g 0 (b8s l) := by
  subst hl
  unfold Own at h
  obtain ⟨g, cap, hv, _, _⟩ := World.ownsRow.form h hn
  subst hv
  exact ⟨g, cap, rfl, fun j u hu => by have := h.cells (g := g) rfl j u hu; rw [add_zero_off] at this; rw [Nat.zero_add]; exact this⟩
theorem wpList_load_rng {ops : Array Oper} {rest : List Oper} {o : Oper} {a : Act} {w : World} {Q : Exit → Act → World → Prop} (hgd : o.guard = none) (ty : TypeId) (x : Operand) (ho : o.op = .load ty x)
    (g n : Nat) (l : List UInt8) (hx : a.eval x = .pointer (some ⟨g, 0, none⟩)) (hb : w.rangeAt g 0 (b8s l)) (hty : Tryd.prog.underlying ty = some (.array n 5)) (hi : (Tryd.prog.info? ty).map (·.size) = some n) (hl : l.length = n)
    (h : wpList Tryd.prog ops Q rest (a.put o.dst (Av l)) w) : wpList Tryd.prog ops Q (o :: rest) a w :=
  wpList_load_mid hgd ty x ho g 0 hx (b8s l) _ hb hty rfl (by rw [hi]; simp [hl]) h
set_option maxRecDepth 100000 in
set_option maxHeartbeats 1000000 in
theorem span_any (u : Int) (w : World) (hh : Highs w) (h0 : 0 ≤ u) (h1 : u ≤ 18446744073709551615) :
    Calls Tryd.prog 25 #[.int .u64 u] w fun e w' => e = .returned (Av (highB u 8)) ∧ Below w.heap.size w w' := by
  obtain ⟨w0, hw0⟩ : ∃ w0, w0 = w.alloc (.cells #[.int .u8 0, .int .u8 0, .int .u8 0, .int .u8 0, .int .u8 0, .int .u8 0, .int .u8 0, .int .u8 0] 46) := ⟨_, rfl⟩
  have HW0 := hid hw0
  have hB : Blk w0 w.heap.size 46 (b8s (zb 8)).toArray := by rw [hw0]; exact Blk.new w _ _
  have hbw : Below w.heap.size w w0 := by rw [hw0]; exact ext_alloc w _
  have HB := hid hB
  have HBW := hid hbw
  have HL := hid (highB_length u 8)
  have HH := hid (hh.ext hbw)
  clear hw0 hB hbw hh
  go_enter Tryd.func25, Tryd.ntmps25
  go_wp2_with fail
  rw [← HW0.out]
  refine (high64_any (.slice none 0 0) [] u w0 HH.out (Bs.nil _ _) h0 h1 (by simp)).mono ?_; rintro e w1 ⟨v, rfl, ho1, hb1⟩
  rw [List.nil_append] at ho1
  obtain ⟨g, cap, rfl, hr⟩ := own_pt ho1 HL.out (by omega)
  have hat := fun W => run_arrayAt (P := Tryd.prog) (w := W) 46 5 8 (some ⟨g, 0, none⟩) 8 cap Tryd.underlying46 (Nat.le_refl _)
  have HR := hid hr
  have HB2 := hid (HB.out.below hb1 HB.out.lt)
  have HBW2 := hid (HBW.out.trans (hb1.mono HBW.out.size))
  clear ho1 hb1 hr
  go_wp2_with (first
    | (refine wpList_load_rng rfl 46 (.tmp 5) rfl g 8 (highB u 8) rfl HR.out Tryd.underlying46 info_span HL.out ?_)
    | (refine wpList_store_av rfl 46 (.tmp 2) (.tmp 6) rfl w.heap.size 8 (highB u 8) (zb 8) _ rfl rfl HB2.out info_span HL.out (zb_length _) ?_; intro w3 hw3 hA3; have HA3 := hid hA3; have HW3 := hid hw3; clear hw3 hA3))
  exact bodyPost_ret (results_av1 rfl _ _ _ _ _ rfl HA3.out Tryd.underlying46 info_span HL.out) rfl ⟨rfl, by rw [HW3.out]; exact setRow_below HBW2.out (Nat.le_refl _) _⟩
set_option maxRecDepth 100000 in
set_option maxHeartbeats 1000000 in
theorem join_any (u v : Int) (w : World) (hh : Highs w) (h0 : 0 ≤ u) (h1 : u ≤ 18446744073709551615) (g0 : 0 ≤ v) (g1 : v ≤ 18446744073709551615) :
    Calls Tryd.prog 21 #[.int .u64 u, .int .u64 v] w fun e w' => e = .returned (Av (highB u 8 ++ highB v 8)) ∧ Below w.heap.size w w' := by
  obtain ⟨w0, hw0⟩ : ∃ w0, w0 = w.alloc (.cells #[.int .u8 0, .int .u8 0, .int .u8 0, .int .u8 0, .int .u8 0, .int .u8 0, .int .u8 0, .int .u8 0, .int .u8 0, .int .u8 0, .int .u8 0, .int .u8 0, .int .u8 0, .int .u8 0, .int .u8 0, .int .u8 0] 44) := ⟨_, rfl⟩
  have HW0 := hid hw0
  have hB : Blk w0 w.heap.size 44 (b8s (zb 16)).toArray := by rw [hw0]; exact Blk.new w _ _
  have hbw : Below w.heap.size w w0 := by rw [hw0]; exact ext_alloc w _
  have HB := hid hB
  have HBW := hid hbw
  have HL := hid (show (highB u 8 ++ highB v 8).length = 16 by rw [List.length_append, highB_length, highB_length])
  have HL1 := hid (highB_length u 8)
  have HH := hid (hh.ext hbw)
  clear hw0 hB hbw hh
  go_enter Tryd.func21, Tryd.ntmps21
  go_wp2_with fail
  rw [← HW0.out]
  refine (high64_any (.slice none 0 0) [] u w0 HH.out (Bs.nil _ _) h0 h1 (by simp)).mono ?_; rintro e w1 ⟨vv, rfl, ho1, hb1⟩
  rw [List.nil_append] at ho1
  have HO1 := hid ho1.bs
  have HH1 := hid (HH.out.ext hb1)
  have HB1 := hid (HB.out.below hb1 HB.out.lt)
  have HBW1 := hid (HBW.out.trans (hb1.mono HBW.out.size))
  clear ho1 hb1
  go_wp2_with fail
  refine (high64_any vv (highB u 8) v w1 HH1.out HO1.out g0 g1 (by rw [HL1.out]; omega)).mono ?_; rintro e w2 ⟨vw, rfl, ho2, hb2⟩
  obtain ⟨g, cap, rfl, hr⟩ := own_pt ho2 HL.out (by omega)
  have hat := fun W => run_arrayAt (P := Tryd.prog) (w := W) 44 5 16 (some ⟨g, 0, none⟩) 16 cap Tryd.underlying44 (Nat.le_refl _)
  have HR := hid hr
  have HB2 := hid (HB1.out.below hb2 HB1.out.lt)
  have HBW2 := hid (HBW1.out.trans (hb2.mono HBW1.out.size))
  clear ho2 hb2 hr
  go_wp2_with (first
    | (refine wpList_load_rng rfl 44 (.tmp 9) rfl g 16 (highB u 8 ++ highB v 8) rfl HR.out Tryd.underlying44 info_trace HL.out ?_)
    | (refine wpList_store_av rfl 44 (.tmp 4) (.tmp 10) rfl w.heap.size 16 (highB u 8 ++ highB v 8) (zb 16) _ rfl rfl HB2.out info_trace HL.out (zb_length _) ?_; intro w3 hw3 hA3; have HA3 := hid hA3; have HW3 := hid hw3; clear hw3 hA3))
  exact bodyPost_ret (results_av1 rfl _ _ _ _ _ rfl HA3.out Tryd.underlying44 info_trace HL.out) rfl ⟨rfl, by rw [HW3.out]; exact setRow_below HBW2.out (Nat.le_refl _) _⟩
set_option maxRecDepth 100000 in
set_option maxHeartbeats 1000000 in
theorem rspanu_any (u : Int) (w : World) (h0 : 0 ≤ u) (h1 : u ≤ 18446744073709551615) :
    Calls Tryd.prog 26 #[.int .u64 u] w fun e w' => e = .returned (Av (highB u 8)) ∧ Below w.heap.size w w' := by
  obtain ⟨w0, hw0⟩ : ∃ w0, w0 = w.alloc (.cells #[.int .u8 0, .int .u8 0, .int .u8 0, .int .u8 0, .int .u8 0, .int .u8 0, .int .u8 0, .int .u8 0] 46) := ⟨_, rfl⟩
  have HW0 := hid hw0
  have hB : Blk w0 w.heap.size 46 (b8s (zb 8)).toArray := by rw [hw0]; exact Blk.new w _ _
  have hbw : Below w.heap.size w w0 := by rw [hw0]; exact ext_alloc w _
  have HB := hid hB
  have HBW := hid hbw
  have HL := hid (highB_length u 8)
  have hz : highB u 8 ++ zb (8 - (highB u 8).length) = highB u 8 := by rw [highB_length]; exact List.append_nil _
  have HZ := hid hz
  clear hw0 hB hbw hz
  go_enter Tryd.func26, Tryd.ntmps26
  go_wp2_with fail
  rw [← HW0.out]
  refine (rhigh_any u 8 w0 h0 h1 (by decide) (by decide)).mono ?_; rintro e w1 ⟨rfl, hb1⟩
  rw [show (8 : Int).toNat = 8 from rfl]
  go_wp2_with fail
  refine (rspan_any (highB u 8) _ (by rw [HL.out]; omega)).mono ?_; rintro e w2 ⟨rfl, hb2⟩
  rw [HZ.out]
  have HB2 := hid (HB.out.below (ext_trans hb1 hb2) HB.out.lt)
  have HBW2 := hid (HBW.out.trans ((ext_trans hb1 hb2).mono HBW.out.size))
  clear hb1 hb2
  go_wp2_with (refine wpList_store_av rfl 46 (.tmp 2) (.tmp 5) rfl w.heap.size 8 (highB u 8) (zb 8) _ rfl rfl HB2.out info_span HL.out (zb_length _) ?_; intro w3 hw3 hA3; have HA3 := hid hA3; have HW3 := hid hw3; clear hw3 hA3)
  exact bodyPost_ret (results_av1 rfl _ _ _ _ _ rfl HA3.out Tryd.underlying46 info_span HL.out) rfl ⟨rfl, by rw [HW3.out]; exact setRow_below HBW2.out (Nat.le_refl _) _⟩
set_option maxRecDepth 100000 in
set_option maxHeartbeats 1000000 in
theorem rjoin_any (u v : Int) (w : World) (h0 : 0 ≤ u) (h1 : u ≤ 18446744073709551615) (g0 : 0 ≤ v) (g1 : v ≤ 18446744073709551615) :
    Calls Tryd.prog 22 #[.int .u64 u, .int .u64 v] w fun e w' => e = .returned (Av (highB u 8 ++ highB v 8)) ∧ Below w.heap.size w w' := by
  obtain ⟨w0, hw0⟩ : ∃ w0, w0 = w.alloc (.cells #[.int .u8 0, .int .u8 0, .int .u8 0, .int .u8 0, .int .u8 0, .int .u8 0, .int .u8 0, .int .u8 0, .int .u8 0, .int .u8 0, .int .u8 0, .int .u8 0, .int .u8 0, .int .u8 0, .int .u8 0, .int .u8 0] 44) := ⟨_, rfl⟩
  have HW0 := hid hw0
  have hB : Blk w0 w.heap.size 44 (b8s (zb 16)).toArray := by rw [hw0]; exact Blk.new w _ _
  have hbw : Below w.heap.size w w0 := by rw [hw0]; exact ext_alloc w _
  have HB := hid hB
  have HBW := hid hbw
  have HL := hid (show (highB u 8 ++ highB v 8).length = 16 by rw [List.length_append, highB_length, highB_length])
  have hz : (highB u 8 ++ highB v 8) ++ zb (16 - (highB u 8 ++ highB v 8).length) = highB u 8 ++ highB v 8 := by rw [HL.out]; exact List.append_nil _
  have HZ := hid hz
  clear hw0 hB hbw hz
  go_enter Tryd.func22, Tryd.ntmps22
  go_wp2_with fail
  rw [← HW0.out]
  refine (rhigh_any u 8 w0 h0 h1 (by decide) (by decide)).mono ?_; rintro e w1 ⟨rfl, hb1⟩
  rw [show (8 : Int).toNat = 8 from rfl]
  go_wp2_with fail
  refine (rhigh_any v 8 _ g0 g1 (by decide) (by decide)).mono ?_; rintro e w2 ⟨rfl, hb2⟩
  rw [show (8 : Int).toNat = 8 from rfl]
  have q1 : (highB u 8).length = 8 := highB_length u 8
  have q2 : (highB v 8).length = 8 := highB_length v 8
  go_wp2_with fail
  refine (rtrace_any (highB u 8 ++ highB v 8) _ (by rw [HL.out]; omega)).mono ?_; rintro e w3 ⟨rfl, hb3⟩
  rw [HZ.out]
  have hbb := ext_trans hb1 (ext_trans hb2 hb3)
  have HB2 := hid (HB.out.below hbb HB.out.lt)
  have HBW2 := hid (HBW.out.trans (hbb.mono HBW.out.size))
  clear hb1 hb2 hb3 hbb
  go_wp2_with (refine wpList_store_av rfl 44 (.tmp 4) (.tmp 10) rfl w.heap.size 16 (highB u 8 ++ highB v 8) (zb 16) _ rfl rfl HB2.out info_trace HL.out (zb_length _) ?_; intro w4 hw4 hA4; have HA4 := hid hA4; have HW4 := hid hw4; clear hw4 hA4)
  exact bodyPost_ret (results_av1 rfl _ _ _ _ _ rfl HA4.out Tryd.underlying44 info_trace HL.out) rfl ⟨rfl, by rw [HW4.out]; exact setRow_below HBW2.out (Nat.le_refl _) _⟩
set_option maxRecDepth 100000 in
theorem number_any (l : List UInt8) (w : World) (hl : l.length = 8) :
    Calls Tryd.prog 23 #[Av l] w fun e w' => e = .returned (.int .u64 (valH l)) ∧ Below w.heap.size w w' := by
  have hsl := fun g W => run_slice_all_arr (t := 46) (n := 8) Tryd.underlying46 g W
  have hcv := fun W => conv_box W 46 l 8 hl
  have hle : l.length ≤ 1125899906842624 := by omega
  have f1 := hid (Cu.start_fit hle)
  have h1 : (Cu.start l).text 8 = l := by
    have hw : (Cu.start l).why 8 = 0 := by simp [Cu.why, Cu.start, hl]
    rw [Cu.text, if_pos hw]
    exact List.take_of_length_le (by simp [Cu.start, hl])
  have H1 := hid h1
  clear h1 hl
  go_enter Tryd.func23, Tryd.ntmps23
  go_wp2_with fail
  refine (new_any l _ hle).mono ?_; rintro e w1 ⟨b, rfl, hb1, hc1, hw1⟩
  go_wp2_with fail
  refine (readhigh64_any b _ _ hc1 f1.out).mono ?_; rintro e w2 ⟨rfl, hc2, hg2⟩
  rw [H1.out]
  have hbb : w.heap.size ≤ b := Nat.le_trans (by simp) hb1
  have hB2 := hid (below_only (ext_trans (ext_alloc w _) hw1) hg2 (ext_trans (ext_alloc w _) hw1).size hbb)
  clear hc1 hw1 hg2
  go_wp2_with fail
  go_ret
  exact ⟨rfl, hB2.out⟩
end Go.Proofs.YtdjbgojdkaipfaaDoor
