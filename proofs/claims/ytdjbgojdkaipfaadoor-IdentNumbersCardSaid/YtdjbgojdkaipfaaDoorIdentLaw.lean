/-
  The laws of chapter 7: works.
-/
import Derived.Test.YtdjbgojdkaipfaaDoorSeen
import Derived.Test.YtdjbgojdkaipfaaDoorIdentRefB
import Derived.Test.YtdjbgojdkaipfaaDoorReadW
import Derived.BigFrame
namespace Go.Proofs.YtdjbgojdkaipfaaDoor
open Go.RowKit Go.Maps Go.WideShapes

set_option maxRecDepth 100000 in
theorem halves_any (l : List UInt8) (w : World) (hl : l.length = 16) :
    Calls Tryd.prog 19 #[Av l] w fun e w' => e = .returned (.tuple #[.int .u64 (valH (l.take 8)), .int .u64 (valH (l.drop 8))]) ∧ Below w.heap.size w w' := by
  have hsl := fun g W => run_slice_all_arr (t := 44) (n := 16) Tryd.underlying44 g W
  have hcv := fun W => conv_box W 44 l 16 hl
  have hle : l.length ≤ 1125899906842624 := by omega
  have f1 := hid (Cu.start_fit hle)
  have h1 : (Cu.start l).text 8 = l.take 8 := by
    have hw : (Cu.start l).why 8 = 0 := by simp [Cu.why, Cu.start, hl]
    rw [Cu.text, if_pos hw]; rfl
  have h2 : (Cu.start l).take 8 = ⟨l, 8, l.length, 0⟩ := by
    have hw : (Cu.start l).why 8 = 0 := by simp [Cu.why, Cu.start, hl]
    rw [Cu.take, hw]; rfl
  have h3 : (⟨l, 8, l.length, 0⟩ : Cu).text 8 = l.drop 8 := by
    have hw : (⟨l, 8, l.length, 0⟩ : Cu).why 8 = 0 := by simp [Cu.why, hl]
    have : ((l.drop 8).take 8) = l.drop 8 := List.take_of_length_le (by simp [hl])
    simpa [Cu.text, hw] using this
  have f2 := hid (show (⟨l, 8, l.length, 0⟩ : Cu).fit from ⟨by show 8 ≤ l.length; omega, Nat.le_refl _, by show l.length ≤ _; omega⟩)
  have H1 := hid h1
  have H2 := hid h2
  have H3 := hid h3
  clear h1 h2 h3 hl
  go_enter Tryd.func19, Tryd.ntmps19
  go_wp2_with fail
  refine (new_any l _ hle).mono ?_; rintro e w1 ⟨b, rfl, hb1, hc1, hw1⟩
  go_wp2_with fail
  refine (readhigh64_any b _ _ hc1 f1.out).mono ?_; rintro e w2 ⟨rfl, hc2, hg2⟩
  rw [H1.out]
  rw [H2.out] at hc2
  have hbb : w.heap.size ≤ b := Nat.le_trans (by simp) hb1
  have hB2 := hid (below_only (ext_trans (ext_alloc w _) hw1) hg2 (ext_trans (ext_alloc w _) hw1).size hbb)
  clear hc1 hw1 hg2
  go_wp2_with fail
  refine (readhigh64_any b _ _ hc2 f2.out).mono ?_; rintro e w3 ⟨rfl, hc3, hg3⟩
  rw [H3.out]
  go_wp2_with fail
  go_ret2
  exact ⟨rfl, below_only hB2.out hg3 hB2.out.size hbb⟩
def T0 : List UInt8 := zb 15 ++ [255]
theorem key0 : ∃ kl, keyOf Tryd.prog 93 (Av (T0 ++ zb 8)) = some kl := Option.isSome_iff_exists.1 (by kernel_rfl)
structure Iw (w wr : World) (g : Nat) : Prop where
  t : Blk wr g 44 (b8s T0).toArray
  bel : Below w.heap.size w wr
theorem Iw.ext {w wr w' : World} {g : Nat} (h : Iw w wr g) (k : Below wr.heap.size wr w') : Iw w w' g := ⟨Blk.below h.t k (Blk.lt h.t), h.bel.trans (k.mono h.bel.size)⟩
theorem Iw.set {w wr : World} {g k : Nat} (h : Iw w wr g) (hne : k ≠ g) (hk : w.heap.size ≤ k) (cs : Array Value) : Iw w (wr.setRow k cs) g := ⟨setRow_far h.t hne, setRow_below h.bel hk _⟩
theorem Iw.move {w wr w' : World} {g m : Nat} (h : Iw w wr g) (k : wr.grownBy w' (some m)) (hne : g ≠ m) (hm : w.heap.size ≤ m) : Iw w w' g :=
  ⟨Blk.grown h.t k (by intro e; injection e with e; exact hne e), below_only h.bel k h.bel.size hm⟩
theorem wpList_load_avW {ops : Array Oper} {rest : List Oper} {o : Oper} {a : Act} {w : World} {Q : Exit → Act → World → Prop} (hgd : Region.wanted o (yielded ops a.tmps) = true) (ty : TypeId) (x : Operand) (ho : o.op = .load ty x)
    (g n : Nat) (l : List UInt8) (t : TypeId) (hx : a.eval x = .pointer (some ⟨g, 0, none⟩)) (hb : Blk w g t (b8s l).toArray) (hty : Tryd.prog.underlying ty = some (.array n 5)) (hi : (Tryd.prog.info? ty).map (·.size) = some n) (hl : l.length = n)
    (h : wpList Tryd.prog ops Q rest (a.put o.dst (Av l)) w) : wpList Tryd.prog ops Q (o :: rest) a w :=
  BigFrame.wpList_want hgd fun _ hK => wp_load_row ty x ho g hx t _ _ _ hb hty rfl (by rw [hi]; simp [hl]) (hK _ _ h)
set_option maxRecDepth 100000 in
set_option maxHeartbeats 8000000 in
theorem iworks_any (w : World) :
    Calls Tryd.prog 32 #[] w fun e w' => e = .returned (.bool true) ∧ Below w.heap.size w w' := by
  have hR1 : Av (traceT [48, 48, 48, 48, 48, 48, 48, 48, 48, 48, 48, 48, 48, 48, 102, 102]) = Av T0 ∧ traceC [48, 48, 48, 48, 48, 48, 48, 48, 48, 48, 48, 48, 48, 48, 102, 102] = 0 := ⟨congrArg Av (by decide +kernel), by decide +kernel⟩
  have hR2 : spanT [48, 48, 48, 48, 48, 48, 48, 48, 48, 48, 48, 48, 48, 48, 48, 48] = zb 8 ∧ spanC [48, 48, 48, 48, 48, 48, 48, 48, 48, 48, 48, 48, 48, 48, 48, 48] = 10 := ⟨by decide +kernel, by decide +kernel⟩
  have hR3 : spanT [48] = zb 8 ∧ spanC [48] = 3 := ⟨by decide +kernel, by decide +kernel⟩
  have HR1 := hid hR1
  have HR2 := hid hR2
  have HR3 := hid hR3
  clear hR1 hR2 hR3
  have hT16 : T0.length = 16 := by decide
  have hz8 : (zb 8).length = 8 := zb_length 8
  go_enter Tryd.func32, Tryd.ntmps32
  go_wp2_with fail
  refine (readtrace_any _ _ (by decide)).mono ?_; rintro e w1 ⟨rfl, hw1⟩
  rw [HR1.out.1, HR1.out.2]
  have HA := hid (show Blk (w1.alloc (.cells #[.int .u8 0, .int .u8 0, .int .u8 0, .int .u8 0, .int .u8 0, .int .u8 0, .int .u8 0, .int .u8 0, .int .u8 0, .int .u8 0, .int .u8 0, .int .u8 0, .int .u8 0, .int .u8 0, .int .u8 0, .int .u8 0] 44)) w1.heap.size 44 (b8s (zb 16)).toArray from Blk.new w1 _ _)
  have HB1 := hid (ext_trans hw1 (ext_alloc w1 (.cells #[.int .u8 0, .int .u8 0, .int .u8 0, .int .u8 0, .int .u8 0, .int .u8 0, .int .u8 0, .int .u8 0, .int .u8 0, .int .u8 0, .int .u8 0, .int .u8 0, .int .u8 0, .int .u8 0, .int .u8 0, .int .u8 0] 44)))
  have hs1 : w.heap.size ≤ w1.heap.size := hw1.size
  clear hw1
  go_wp2_with (refine wpList_store_av rfl 44 (.tmp 1) (.tmp 19) rfl w1.heap.size 16 T0 (zb 16) _ rfl rfl HA.out info_trace hT16 (zb_length 16) ?_; intro w2 hw2 hA2; have I2 := hid (Iw.mk hA2 (show Below w.heap.size w w2 by rw [hw2]; exact setRow_below HB1.out hs1 _)); clear hw2 hA2)
  clear HA HB1
  refine (readspan_any _ _ (by decide)).mono ?_; rintro e w3 ⟨rfl, hw3⟩
  rw [HR2.out.1, HR2.out.2]
  have I2a := hid (I2.out.ext hw3)
  have HS3 := hid (show Blk (w3.alloc (.cells #[.int .u8 0, .int .u8 0, .int .u8 0, .int .u8 0, .int .u8 0, .int .u8 0, .int .u8 0, .int .u8 0] 46)) w3.heap.size 46 (b8s (zb 8)).toArray from Blk.new w3 _ _)
  have I2b := hid (I2a.out.ext (ext_alloc w3 (.cells #[.int .u8 0, .int .u8 0, .int .u8 0, .int .u8 0, .int .u8 0, .int .u8 0, .int .u8 0, .int .u8 0] 46)))
  have hne3 : w3.heap.size ≠ w1.heap.size := (Nat.ne_of_lt (Blk.lt I2a.out.t)).symm
  have hsz3 : w.heap.size ≤ w3.heap.size := I2a.out.bel.size
  clear hw3 I2
  go_wp2_with (first
    | (refine wpList_store_av rfl 46 (.tmp 3) (.tmp 23) rfl w3.heap.size 8 (zb 8) (zb 8) _ rfl rfl HS3.out info_span hz8 hz8 ?_; intro w4 hw4 hA4; have I4 := hid (show Iw w w4 w1.heap.size by rw [hw4]; exact I2b.out.set hne3 hsz3 _); clear hw4 hA4)
    | (refine wpList_load_av rfl 44 (.tmp 1) rfl w1.heap.size 16 T0 _ rfl I4.out.t Tryd.underlying44 info_trace hT16 ?_))
  clear HS3 I2a I2b
  refine (readspan_any _ _ (by decide)).mono ?_; rintro e w5 ⟨rfl, hw5⟩
  rw [HR3.out.1, HR3.out.2]
  have I4a := hid (I4.out.ext hw5)
  have HS5 := hid (show Blk (w5.alloc (.cells #[.int .u8 0, .int .u8 0, .int .u8 0, .int .u8 0, .int .u8 0, .int .u8 0, .int .u8 0, .int .u8 0] 46)) w5.heap.size 46 (b8s (zb 8)).toArray from Blk.new w5 _ _)
  have I4b := hid (I4a.out.ext (ext_alloc w5 (.cells #[.int .u8 0, .int .u8 0, .int .u8 0, .int .u8 0, .int .u8 0, .int .u8 0, .int .u8 0, .int .u8 0] 46)))
  have hne5 : w5.heap.size ≠ w1.heap.size := (Nat.ne_of_lt (Blk.lt I4a.out.t)).symm
  have hsz5 : w.heap.size ≤ w5.heap.size := I4a.out.bel.size
  clear hw5 I4
  go_wp2_with (first
    | (refine wpList_store_av rfl 46 (.tmp 5) (.tmp 27) rfl w5.heap.size 8 (zb 8) (zb 8) _ rfl rfl HS5.out info_span hz8 hz8 ?_; intro w6 hw6 hA6; have I6 := hid (show Iw w w6 w1.heap.size by rw [hw6]; exact I4b.out.set hne5 hsz5 _); clear hw6 hA6)
    | (refine wpList_load_av rfl 44 (.tmp 1) rfl w1.heap.size 16 T0 _ rfl I6.out.t Tryd.underlying44 info_trace hT16 ?_))
  clear HS5 I4a I4b
  refine (halves_any T0 _ hT16).mono ?_; rintro e w7 ⟨rfl, hw7⟩
  rw [show valH (T0.take 8) = 0 by decide +kernel, show valH (T0.drop 8) = 255 by decide +kernel]
  have I7 := hid (I6.out.ext hw7)
  clear hw7 I6
  go_wp2_with fail
  refine (seennew_any _).mono ?_; rintro e w8 ⟨q, m, rfl, hm, hmq, hS8, hw8⟩
  have I8 := hid (I7.out.ext hw8)
  have S8 := hid hS8
  have hgm : w1.heap.size ≠ m := Nat.ne_of_lt (Nat.lt_of_lt_of_le (Blk.lt I7.out.t) hm)
  have hwm : w.heap.size ≤ m := Nat.le_trans I7.out.bel.size hm
  clear hw8 hS8 I7 hm
  go_wp2_with (first | (refine wpList_load_av rfl 44 (.tmp 1) rfl w1.heap.size 16 T0 _ rfl I8.out.t Tryd.underlying44 info_trace hT16 ?_))
  obtain ⟨kl, hkl⟩ := key0
  have HKL := hid hkl
  have HIS := hid (pair_law.key hkl)
  clear hkl
  refine (add_new T0 (zb 8) hT16 hz8 q m 0 (.map []) kl _ S8.out (by decide) (by decide) hmq HKL.out rfl).mono ?_; rintro e w9 ⟨rfl, hS9, hg9⟩
  have I9 := hid (I8.out.move hg9 hgm hwm)
  have S9 := hid hS9
  clear hS9 hg9 I8 S8
  go_wp2_with (first | (refine wpList_load_av rfl 44 (.tmp 1) rfl w1.heap.size 16 T0 _ rfl I9.out.t Tryd.underlying44 info_trace hT16 ?_))
  refine (add_old T0 (zb 8) hT16 hz8 q m 1 _ kl _ S9.out HKL.out 0 (has_put_same isMap_empty HIS.out _) (atKey_put_same isMap_empty HIS.out _ _)).mono ?_; rintro e w10 ⟨rfl, hS10, hw10⟩
  have I10 := hid (I9.out.ext hw10)
  have S10 := hid hS10
  clear hS10 hw10 I9 S9
  go_wp2_with (first | (refine wpList_load_av rfl 44 (.tmp 1) rfl w1.heap.size 16 T0 _ rfl I10.out.t Tryd.underlying44 info_trace hT16 ?_))
  refine (seenfind_nil T0 (zb 8) _).mono ?_; rintro e w11 ⟨rfl, hw11⟩
  have I11 := hid (I10.out.ext hw11)
  have S11 := hid (S10.out.ext hw11)
  clear hw11 I10 S10
  go_wp2_with (first | (refine wpList_load_av rfl 44 (.tmp 1) rfl w1.heap.size 16 T0 _ rfl I11.out.t Tryd.underlying44 info_trace hT16 ?_) | (refine wpList_load_avW rfl 44 (.tmp 1) rfl w1.heap.size 16 T0 _ rfl I11.out.t Tryd.underlying44 info_trace hT16 ?_))
  refine (tracetext_any T0 _ hT16).mono ?_; rintro e w12 ⟨rfl, hw12⟩
  have I12 := hid (I11.out.ext hw12)
  have S12 := hid (S11.out.ext hw12)
  rw [show hexEnc T0 = [48, 48, 48, 48, 48, 48, 48, 48, 48, 48, 48, 48, 48, 48, 48, 48, 48, 48, 48, 48, 48, 48, 48, 48, 48, 48, 48, 48, 48, 48, 102, 102] by decide +kernel]
  clear hw12 I11 S11
  go_wp2_with fail
  refine (seenlen_any q m _ _ _ S12.out).mono ?_; rintro e w13 ⟨rfl, rfl⟩
  rw [size_put tidy_empty]
  go_wp2_with fail
  refine (seenlen_nil _).mono ?_; rintro e w13 ⟨rfl, rfl⟩
  go_wp2_with fail
  go_ret
  exact ⟨rfl, I12.out.bel⟩
end Go.Proofs.YtdjbgojdkaipfaaDoor
