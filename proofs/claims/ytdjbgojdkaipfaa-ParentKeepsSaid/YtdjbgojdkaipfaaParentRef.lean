/-
  Walks of the reference of package parent.
-/
import Derived.Test.YtdjbgojdkaipfaaParentMore
import Derived.Test.YtdjbgojdkaipfaaParentOf
import Derived.Test.YtdjbgojdkaipfaaIdentRef
import Derived.Test.YtdjbgojdkaipfaaIdentRefB
import Derived.Test.YtdjbgojdkaipfaaHexaRef
namespace Go.Proofs.Ytdjbgojdkaipfaa
open Go.RowKit

def digB (l : List UInt8) : Bool := l.all fun b => nibOk (bi b)
theorem digB_drop (l : List UInt8) (k : Nat) (h : k < l.length) : digB (l.drop k) = (nibOk (byteAt l k) && digB (l.drop (k + 1))) := by
  rw [List.drop_eq_getElem_cons h]
  simp only [digB, List.all_cons]
  rw [show bi l[k] = byteAt l k by simp [byteAt, List.getD, h, bi]]
set_option maxRecDepth 100000 in
set_option maxHeartbeats 1000000 in
theorem rdigits_any (s : List UInt8) (w : World) (hs : s.length ≤ 140737488355328) :
    Calls Try.prog 104 #[Sv s] w fun e w' => e = .returned (.bool (digB s)) ∧ w = w' := by
  go_enter Try.func104, Try.ntmps104
  go_wp2
  go_loop [3] (fun i => ∃ k : Nat, k ≤ s.length ∧ i = .int .i64 (k : Int) ∧ Hid (digB s = digB (s.drop k))) (fun i => s.length - (intOf i).toNat)
  case atStart => exact ⟨0, by omega, rfl, hid rfl⟩
  case round =>
    obtain ⟨k, hk, rfl, HR⟩ := hrel
    by_cases hlt : k < s.length
    · have n1 := byteAt_lo s k
      have n2 := byteAt_hi s k
      have HS := hid (digB_drop s k hlt)
      cases hq : nibOk (byteAt s k) with
      | true =>
        have HS' := hid (show digB (s.drop k) = digB (s.drop (k + 1)) by rw [HS.out, hq]; rfl)
        go_wp2_with (go_at_call 144; refine (rnib_any _ _ (by omega) (by omega)).mono ?_; rintro e w' ⟨rfl, rfl⟩)
        go_round
        case rel => exact ⟨k + 1, by omega, by go_num, hid (by rw [HR.out, HS'.out])⟩
        case measure => simp [intOf]; omega
      | false =>
        have HS' := hid (show digB (s.drop k) = false by rw [HS.out, hq]; rfl)
        go_wp2_with (go_at_call 144; refine (rnib_any _ _ (by omega) (by omega)).mono ?_; rintro e w' ⟨rfl, rfl⟩)
        go_ret
        exact ⟨by rw [HR.out, HS'.out]; rfl, rfl⟩
    · obtain rfl : k = s.length := by omega
      go_wp2
      go_ret
      exact ⟨by rw [HR.out, List.drop_length]; rfl, rfl⟩
theorem rdigits_bel (s : List UInt8) (w : World) (hs : s.length ≤ 140737488355328) :
    Calls Try.prog 104 #[Sv s] w fun e w' => e = .returned (.bool (digB s)) ∧ Below w.heap.size w w' :=
  (rdigits_any s w hs).mono fun _ _ ⟨he, h⟩ => ⟨he, h ▸ Below.refl _ _⟩
def byO (s : List UInt8) : Int := byteAt ((hexDec s).getD []) 0
theorem byteAt_nil (k : Nat) : byteAt [] k = 0 := by simp [byteAt]
set_option maxRecDepth 100000 in
theorem rbyteOf_any (s : List UInt8) (w : World) (hs : s.length ≤ 140737488355328) :
    Calls Try.prog 105 #[Sv s] w fun e w' => e = .returned (.int .u8 (byO s)) ∧ Below w.heap.size w w' := by
  have HO := hid (show hexOut s = .tuple #[Sv ((hexDec s).getD []), .int .i64 (if (hexDec s).isSome then 0 else 3)] from rfl)
  have HY := hid (show byO s = byteAt ((hexDec s).getD []) 0 from rfl)
  obtain ⟨l, hl⟩ : ∃ l, (hexDec s).getD [] = l := ⟨_, rfl⟩
  obtain ⟨c, hc⟩ : ∃ c : Int, (if (hexDec s).isSome then 0 else 3) = c := ⟨_, rfl⟩
  rw [hl, hc] at HO
  rw [hl] at HY
  clear hl hc
  cases l with
  | nil =>
    go_enter Try.func105, Try.ntmps105
    go_wp2_with fail
    refine (rread_any s _ hs).mono ?_; rintro e w1 ⟨rfl, hb1⟩
    rw [HO.out]
    go_wp2
    go_ret
    exact ⟨by rw [HY.out, byteAt_nil]; rfl, hb1⟩
  | cons b r =>
    have q1 : ((b :: r) == ([] : List UInt8)) = false := rfl
    have q2 : 0 < (b :: r).length := by simp
    go_enter Try.func105, Try.ntmps105
    go_wp2_with fail
    refine (rread_any s _ hs).mono ?_; rintro e w1 ⟨rfl, hb1⟩
    rw [HO.out]
    go_wp2
    go_ret
    exact ⟨by rw [HY.out]; rfl, hb1⟩
theorem valL_zero : ∀ l : List UInt8, valL l = 0 ↔ l = zb l.length
  | [] => by simp [valL, zb]
  | x :: l => by
    have hx := bi_lt x
    have hn := valL_nonneg l
    have ih := valL_zero l
    have e : zb (l.length + 1) = 0 :: zb l.length := rfl
    rw [List.length_cons, e, List.cons.injEq, ← ih]
    show bi x + 256 * valL l = 0 ↔ _
    constructor
    · intro h
      have h1 : bi x = 0 := by omega
      exact ⟨bi_inj (by rw [h1]; rfl), by omega⟩
    · rintro ⟨rfl, h2⟩
      rw [h2]; rfl
theorem valH_zero (l : List UInt8) : valH l = 0 ↔ l = zb l.length := by
  unfold valH
  rw [valL_zero, List.length_reverse]
  constructor
  · intro h
    have := congrArg List.reverse h
    rw [List.reverse_reverse] at this
    rw [this]; simp [zb]
  · intro h
    rw [h]; simp [zb]
theorem zb_add (m n : Nat) : zb (m + n) = zb m ++ zb n := by simp [zb, List.replicate_append_replicate]
theorem tr_zero (t : List UInt8) (ht : t.length = 16) : (t == zb 16) = (decide (valH (t.take 8) = 0) && decide (valH (t.drop 8) = 0)) := by
  rw [Bool.eq_iff_iff]
  simp only [beq_iff_eq, Bool.and_eq_true, decide_eq_true_eq, valH_zero]
  have l1 : (t.take 8).length = 8 := by simp [ht]
  have l2 : (t.drop 8).length = 8 := by simp [ht]
  rw [l1, l2]
  constructor
  · rintro rfl; exact ⟨rfl, rfl⟩
  · rintro ⟨h1, h2⟩
    rw [← List.take_append_drop 8 t, h1, h2]; rfl
theorem sp_zero (x : List UInt8) (hx : x.length = 8) : (x == zb 8) = decide (valH x = 0) := by
  rw [Bool.eq_iff_iff]
  simp only [beq_iff_eq, decide_eq_true_eq, valH_zero, hx]
set_option maxRecDepth 100000 in
set_option maxHeartbeats 2000000 in
theorem rmay_any (v f : Int) (t x : List UInt8) (w : World) (ht : t.length = 16) (hx : x.length = 8) :
    Calls Try.prog 47 #[Hv v t x f] w fun e w' => e = .returned (.bool (mayB t x)) ∧ Below w.heap.size w w' := by
  have HT := hid ht
  have HX := hid hx
  have hA := Blk.new w 61 (hc v t x f).toArray
  have HA := hid hA
  have HA1 := hid hA.hcT
  have HBW := hid (ext_alloc w (.cells (hc v t x f).toArray 61))
  have HL17 := hid (show ([Value.int .u8 v] ++ b8s t).length = 17 by simp [ht])
  have HM := hid (show mayB t x = (!(decide (valH (t.take 8) = 0) && decide (valH (t.drop 8) = 0)) && !(decide (valH x = 0))) by unfold mayB; rw [tr_zero t ht, sp_zero x hx])
  clear ht hx hA
  obtain ⟨a, ha⟩ : ∃ a, valH (t.take 8) = a := ⟨_, rfl⟩
  obtain ⟨b, hb⟩ : ∃ b, valH (t.drop 8) = b := ⟨_, rfl⟩
  obtain ⟨c, hc⟩ : ∃ c, valH x = c := ⟨_, rfl⟩
  rw [ha, hb, hc] at HM
  have EA := hid ha
  have EB := hid hb
  have EC := hid hc
  clear ha hb hc
  by_cases ha : a = 0
  · by_cases hb : b = 0
    · by_cases hc : c = 0
      · have qa : (a != 0) = false := by rw [ha]; rfl
        have qb : (b != 0) = false := by rw [hb]; rfl
        have qc : (c != 0) = false := by rw [hc]; rfl
        have HM' := hid (show mayB t x = false by rw [HM.out, decide_eq_true ha, decide_eq_true hb, decide_eq_true hc]; rfl)
        clear ha hb hc HM
        go_enter Try.func47, Try.ntmps47
        go_wp2_with (refine wpList_load_seg rfl 39 (.tmp 6) rfl w.heap.size 1 16 _ _ _ t rfl HA1.out rfl Try.underlying39 info_trace HT.out ?_)
        refine (rhalves_any t _ HT.out).mono ?_; rintro e w1 ⟨rfl, hb1⟩
        rw [EA.out, EB.out]
        have HA3 := hid (HA.out.below hb1 HA.out.lt).hcX
        have HB3 := hid (HBW.out.trans (hb1.mono HBW.out.size))
        clear hb1
        go_wp2_with fail
        go_ret
        exact ⟨by rw [HM'.out]; rfl, HB3.out⟩
      · have qa : (a != 0) = false := by rw [ha]; rfl
        have qb : (b != 0) = false := by rw [hb]; rfl
        have qc : (c != 0) = true := by simpa using hc
        have HM' := hid (show mayB t x = false by rw [HM.out, decide_eq_true ha, decide_eq_true hb, decide_eq_false hc]; rfl)
        clear ha hb hc HM
        go_enter Try.func47, Try.ntmps47
        go_wp2_with (refine wpList_load_seg rfl 39 (.tmp 6) rfl w.heap.size 1 16 _ _ _ t rfl HA1.out rfl Try.underlying39 info_trace HT.out ?_)
        refine (rhalves_any t _ HT.out).mono ?_; rintro e w1 ⟨rfl, hb1⟩
        rw [EA.out, EB.out]
        have HA3 := hid (HA.out.below hb1 HA.out.lt).hcX
        have HB3 := hid (HBW.out.trans (hb1.mono HBW.out.size))
        clear hb1
        go_wp2_with fail
        go_ret
        exact ⟨by rw [HM'.out]; rfl, HB3.out⟩
    · by_cases hc : c = 0
      · have qa : (a != 0) = false := by rw [ha]; rfl
        have qb : (b != 0) = true := by simpa using hb
        have qc : (c != 0) = false := by rw [hc]; rfl
        have HM' := hid (show mayB t x = false by rw [HM.out, decide_eq_true ha, decide_eq_false hb, decide_eq_true hc]; rfl)
        clear ha hb hc HM
        go_enter Try.func47, Try.ntmps47
        go_wp2_with (refine wpList_load_seg rfl 39 (.tmp 6) rfl w.heap.size 1 16 _ _ _ t rfl HA1.out rfl Try.underlying39 info_trace HT.out ?_)
        refine (rhalves_any t _ HT.out).mono ?_; rintro e w1 ⟨rfl, hb1⟩
        rw [EA.out, EB.out]
        have HA3 := hid (HA.out.below hb1 HA.out.lt).hcX
        have HB3 := hid (HBW.out.trans (hb1.mono HBW.out.size))
        clear hb1
        go_wp2_with (refine wpList_load_segW rfl 41 (.tmp 18) rfl w.heap.size 17 8 _ _ _ x rfl HA3.out HL17.out Try.underlying41 info_span HX.out ?_)
        refine (rnum_any x _ HX.out).mono ?_; rintro e w2 ⟨rfl, hb2⟩
        rw [EC.out]
        go_wp2_with fail
        go_ret
        exact ⟨by rw [HM'.out]; rfl, HB3.out.trans (hb2.mono HB3.out.size)⟩
      · have qa : (a != 0) = false := by rw [ha]; rfl
        have qb : (b != 0) = true := by simpa using hb
        have qc : (c != 0) = true := by simpa using hc
        have HM' := hid (show mayB t x = true by rw [HM.out, decide_eq_true ha, decide_eq_false hb, decide_eq_false hc]; rfl)
        clear ha hb hc HM
        go_enter Try.func47, Try.ntmps47
        go_wp2_with (refine wpList_load_seg rfl 39 (.tmp 6) rfl w.heap.size 1 16 _ _ _ t rfl HA1.out rfl Try.underlying39 info_trace HT.out ?_)
        refine (rhalves_any t _ HT.out).mono ?_; rintro e w1 ⟨rfl, hb1⟩
        rw [EA.out, EB.out]
        have HA3 := hid (HA.out.below hb1 HA.out.lt).hcX
        have HB3 := hid (HBW.out.trans (hb1.mono HBW.out.size))
        clear hb1
        go_wp2_with (refine wpList_load_segW rfl 41 (.tmp 18) rfl w.heap.size 17 8 _ _ _ x rfl HA3.out HL17.out Try.underlying41 info_span HX.out ?_)
        refine (rnum_any x _ HX.out).mono ?_; rintro e w2 ⟨rfl, hb2⟩
        rw [EC.out]
        go_wp2_with fail
        go_ret
        exact ⟨by rw [HM'.out]; rfl, HB3.out.trans (hb2.mono HB3.out.size)⟩
  · by_cases hb : b = 0
    · by_cases hc : c = 0
      · have qa : (a != 0) = true := by simpa using ha
        have qb : (b != 0) = false := by rw [hb]; rfl
        have qc : (c != 0) = false := by rw [hc]; rfl
        have HM' := hid (show mayB t x = false by rw [HM.out, decide_eq_false ha, decide_eq_true hb, decide_eq_true hc]; rfl)
        clear ha hb hc HM
        go_enter Try.func47, Try.ntmps47
        go_wp2_with (refine wpList_load_seg rfl 39 (.tmp 6) rfl w.heap.size 1 16 _ _ _ t rfl HA1.out rfl Try.underlying39 info_trace HT.out ?_)
        refine (rhalves_any t _ HT.out).mono ?_; rintro e w1 ⟨rfl, hb1⟩
        rw [EA.out, EB.out]
        have HA3 := hid (HA.out.below hb1 HA.out.lt).hcX
        have HB3 := hid (HBW.out.trans (hb1.mono HBW.out.size))
        clear hb1
        go_wp2_with (refine wpList_load_segW rfl 41 (.tmp 18) rfl w.heap.size 17 8 _ _ _ x rfl HA3.out HL17.out Try.underlying41 info_span HX.out ?_)
        refine (rnum_any x _ HX.out).mono ?_; rintro e w2 ⟨rfl, hb2⟩
        rw [EC.out]
        go_wp2_with fail
        go_ret
        exact ⟨by rw [HM'.out]; rfl, HB3.out.trans (hb2.mono HB3.out.size)⟩
      · have qa : (a != 0) = true := by simpa using ha
        have qb : (b != 0) = false := by rw [hb]; rfl
        have qc : (c != 0) = true := by simpa using hc
        have HM' := hid (show mayB t x = true by rw [HM.out, decide_eq_false ha, decide_eq_true hb, decide_eq_false hc]; rfl)
        clear ha hb hc HM
        go_enter Try.func47, Try.ntmps47
        go_wp2_with (refine wpList_load_seg rfl 39 (.tmp 6) rfl w.heap.size 1 16 _ _ _ t rfl HA1.out rfl Try.underlying39 info_trace HT.out ?_)
        refine (rhalves_any t _ HT.out).mono ?_; rintro e w1 ⟨rfl, hb1⟩
        rw [EA.out, EB.out]
        have HA3 := hid (HA.out.below hb1 HA.out.lt).hcX
        have HB3 := hid (HBW.out.trans (hb1.mono HBW.out.size))
        clear hb1
        go_wp2_with (refine wpList_load_segW rfl 41 (.tmp 18) rfl w.heap.size 17 8 _ _ _ x rfl HA3.out HL17.out Try.underlying41 info_span HX.out ?_)
        refine (rnum_any x _ HX.out).mono ?_; rintro e w2 ⟨rfl, hb2⟩
        rw [EC.out]
        go_wp2_with fail
        go_ret
        exact ⟨by rw [HM'.out]; rfl, HB3.out.trans (hb2.mono HB3.out.size)⟩
    · by_cases hc : c = 0
      · have qa : (a != 0) = true := by simpa using ha
        have qb : (b != 0) = true := by simpa using hb
        have qc : (c != 0) = false := by rw [hc]; rfl
        have HM' := hid (show mayB t x = false by rw [HM.out, decide_eq_false ha, decide_eq_false hb, decide_eq_true hc]; rfl)
        clear ha hb hc HM
        go_enter Try.func47, Try.ntmps47
        go_wp2_with (refine wpList_load_seg rfl 39 (.tmp 6) rfl w.heap.size 1 16 _ _ _ t rfl HA1.out rfl Try.underlying39 info_trace HT.out ?_)
        refine (rhalves_any t _ HT.out).mono ?_; rintro e w1 ⟨rfl, hb1⟩
        rw [EA.out, EB.out]
        have HA3 := hid (HA.out.below hb1 HA.out.lt).hcX
        have HB3 := hid (HBW.out.trans (hb1.mono HBW.out.size))
        clear hb1
        go_wp2_with (refine wpList_load_segW rfl 41 (.tmp 18) rfl w.heap.size 17 8 _ _ _ x rfl HA3.out HL17.out Try.underlying41 info_span HX.out ?_)
        refine (rnum_any x _ HX.out).mono ?_; rintro e w2 ⟨rfl, hb2⟩
        rw [EC.out]
        go_wp2_with fail
        go_ret
        exact ⟨by rw [HM'.out]; rfl, HB3.out.trans (hb2.mono HB3.out.size)⟩
      · have qa : (a != 0) = true := by simpa using ha
        have qb : (b != 0) = true := by simpa using hb
        have qc : (c != 0) = true := by simpa using hc
        have HM' := hid (show mayB t x = true by rw [HM.out, decide_eq_false ha, decide_eq_false hb, decide_eq_false hc]; rfl)
        clear ha hb hc HM
        go_enter Try.func47, Try.ntmps47
        go_wp2_with (refine wpList_load_seg rfl 39 (.tmp 6) rfl w.heap.size 1 16 _ _ _ t rfl HA1.out rfl Try.underlying39 info_trace HT.out ?_)
        refine (rhalves_any t _ HT.out).mono ?_; rintro e w1 ⟨rfl, hb1⟩
        rw [EA.out, EB.out]
        have HA3 := hid (HA.out.below hb1 HA.out.lt).hcX
        have HB3 := hid (HBW.out.trans (hb1.mono HBW.out.size))
        clear hb1
        go_wp2_with (refine wpList_load_segW rfl 41 (.tmp 18) rfl w.heap.size 17 8 _ _ _ x rfl HA3.out HL17.out Try.underlying41 info_span HX.out ?_)
        refine (rnum_any x _ HX.out).mono ?_; rintro e w2 ⟨rfl, hb2⟩
        rw [EC.out]
        go_wp2_with fail
        go_ret
        exact ⟨by rw [HM'.out]; rfl, HB3.out.trans (hb2.mono HB3.out.size)⟩
set_option maxRecDepth 100000 in
set_option maxHeartbeats 4000000 in
theorem rtextH_any (v f : Int) (t x : List UInt8) (w : World) (ht : t.length = 16) (hx : x.length = 8) (f0 : 0 ≤ f) (f1 : f ≤ 255) :
    Calls Try.prog 45 #[Hv v t x f] w fun e w' => e = .returned (Sv (textH t x f)) ∧ Below w.heap.size w w' := by
  have HT := hid ht
  have HX := hid hx
  have HB := hid (Blk.new w 61 (hc v t x f).toArray)
  have HBW := hid (ext_alloc w (.cells (hc v t x f).toArray 61))
  have l1 := hid (hexEnc_length t)
  have l2 := hid (hexEnc_length x)
  clear ht hx
  cases hm : mayB t x with
  | false =>
    have HR := hid (show textH t x f = [] by unfold textH; rw [hm]; rfl)
    have HM := hid hm
    clear hm
    go_enter Try.func45, Try.ntmps45
    go_wp2_with (refine wpList_load_hv rfl 61 (.tmp 1) rfl w.heap.size _ _ v f t x rfl HB.out Try.underlying61 rfl info_rhdr HT.out HX.out ?_)
    refine (rmay_any v f t x _ HT.out HX.out).mono ?_; rintro e w1 ⟨rfl, hb1⟩
    rw [HM.out]
    go_wp2_with fail
    go_ret
    exact ⟨by rw [HR.out]; rfl, HBW.out.trans (hb1.mono HBW.out.size)⟩
  | true =>
    have HR := hid (show textH t x f = [48, 48, 45] ++ hexEnc t ++ [45] ++ hexEnc x ++ [45] ++ hexEnc [bt f] by unfold textH; rw [if_pos hm])
    have HM := hid hm
    clear hm
    go_enter Try.func45, Try.ntmps45
    go_wp2_with (refine wpList_load_hv rfl 61 (.tmp 1) rfl w.heap.size _ _ v f t x rfl HB.out Try.underlying61 rfl info_rhdr HT.out HX.out ?_)
    refine (rmay_any v f t x _ HT.out HX.out).mono ?_; rintro e w1 ⟨rfl, hb1⟩
    rw [HM.out]
    go_wp2_with fail
    have HBW1 := hid (HBW.out.trans (hb1.mono HBW.out.size))
    have hS0 := hid (Th.start (HB.out.below hb1 HB.out.lt) HBW1.out HT.out HX.out f0 f1)
    obtain ⟨E, hE⟩ : ∃ E, hexEnc t = E := ⟨_, rfl⟩
    obtain ⟨D, hD⟩ : ∃ D, hexEnc x = D := ⟨_, rfl⟩
    obtain ⟨G, hG⟩ : ∃ G, hexEnc [bt f] = G := ⟨_, rfl⟩
    have le : E.length ≤ 32 := by rw [← hE, l1.out, HT.out]; decide
    have ld : D.length ≤ 16 := by rw [← hD, l2.out, HX.out]; decide
    have lg : G.length ≤ 2 := by rw [← hG]; exact Nat.le_refl _
    rw [hE, hD, hG] at HR
    clear hb1 l1 l2
    refine region_token (Th w w.heap.size 61 v f t x) 20 _ (by kernel_rfl) (by kernel_rfl) (hS0.out.ext (ext_drew _)) ?_
    clear hS0
    (refine tok_pure (v := ?_) (by decide) (fun _ => by rfl) ?_ ?_; rotate_left; (focus (intro x u; simp only [fam, Act.put, List.setIfInBounds_toArray, List.set_cons_zero, List.set_cons_succ]; go_simp; with_reducible rfl)); try simp only [Act.put, List.setIfInBounds_toArray, List.set_cons_zero, List.set_cons_succ])
    refine tok_load 39 (.tmp 6) rfl (by decide) (fun _ => by rfl) (fun y u k => k.loadT HT.out) ?_
    try simp only [Act.put, List.setIfInBounds_toArray, List.set_cons_zero, List.set_cons_succ]
    refine tok_call (fun y u k => k.call (rtracebytes_any t u HT.out)) (by decide) (fun _ => by rfl) (fun y u => by simp only [fam]; go_simp) ?_
    try simp only [Act.put, List.setIfInBounds_toArray, List.set_cons_zero, List.set_cons_succ]
    refine tok_call (fun y u k => k.call (hE ▸ rtext_any t u (by rw [HT.out]; decide))) (by decide) (fun _ => by rfl) (fun y u => by simp only [fam]; go_simp) ?_
    try simp only [Act.put, List.setIfInBounds_toArray, List.set_cons_zero, List.set_cons_succ]
    (refine tok_add _ _ _ _ rfl (fun _ => by rfl) (fun _ => by rfl) ?_ (by decide) (fun _ => by rfl) ?_; (focus (simp only [List.length_append, List.length_cons, List.length_nil]; omega)); try simp only [Act.put, List.setIfInBounds_toArray, List.set_cons_zero, List.set_cons_succ])
    (refine tok_add _ _ _ _ rfl (fun _ => by rfl) (fun _ => by rfl) ?_ (by decide) (fun _ => by rfl) ?_; (focus (simp only [List.length_append, List.length_cons, List.length_nil]; omega)); try simp only [Act.put, List.setIfInBounds_toArray, List.set_cons_zero, List.set_cons_succ])
    (refine tok_pure (v := ?_) (by decide) (fun _ => by rfl) ?_ ?_; rotate_left; (focus (intro x u; simp only [fam, Act.put, List.setIfInBounds_toArray, List.set_cons_zero, List.set_cons_succ]; go_simp; with_reducible rfl)); try simp only [Act.put, List.setIfInBounds_toArray, List.set_cons_zero, List.set_cons_succ])
    refine tok_load 41 (.tmp 12) rfl (by decide) (fun _ => by rfl) (fun y u k => k.loadX HT.out HX.out) ?_
    try simp only [Act.put, List.setIfInBounds_toArray, List.set_cons_zero, List.set_cons_succ]
    refine tok_call (fun y u k => k.call (rspanbytes_any x u HX.out)) (by decide) (fun _ => by rfl) (fun y u => by simp only [fam]; go_simp) ?_
    try simp only [Act.put, List.setIfInBounds_toArray, List.set_cons_zero, List.set_cons_succ]
    refine tok_call (fun y u k => k.call (hD ▸ rtext_any x u (by rw [HX.out]; decide))) (by decide) (fun _ => by rfl) (fun y u => by simp only [fam]; go_simp) ?_
    try simp only [Act.put, List.setIfInBounds_toArray, List.set_cons_zero, List.set_cons_succ]
    (refine tok_add _ _ _ _ rfl (fun _ => by rfl) (fun _ => by rfl) ?_ (by decide) (fun _ => by rfl) ?_; (focus (simp only [List.length_append, List.length_cons, List.length_nil]; omega)); try simp only [Act.put, List.setIfInBounds_toArray, List.set_cons_zero, List.set_cons_succ])
    (refine tok_add _ _ _ _ rfl (fun _ => by rfl) (fun _ => by rfl) ?_ (by decide) (fun _ => by rfl) ?_; (focus (simp only [List.length_append, List.length_cons, List.length_nil]; omega)); try simp only [Act.put, List.setIfInBounds_toArray, List.set_cons_zero, List.set_cons_succ])
    (refine tok_pure (v := ?_) (by decide) (fun _ => by rfl) ?_ ?_; rotate_left; (focus (intro x u; simp only [fam, Act.put, List.setIfInBounds_toArray, List.set_cons_zero, List.set_cons_succ]; go_simp; with_reducible rfl)); try simp only [Act.put, List.setIfInBounds_toArray, List.set_cons_zero, List.set_cons_succ])
    refine tok_load 5 (.tmp 18) rfl (by decide) (fun _ => by rfl) (fun y u k => k.loadF HT.out HX.out) ?_
    try simp only [Act.put, List.setIfInBounds_toArray, List.set_cons_zero, List.set_cons_succ]
    refine tok_make rfl (by rfl) (fun y u k => ⟨_, _, by go_simp, k.make f0 f1⟩) ?_
    try simp only [Act.put, List.setIfInBounds_toArray, List.set_cons_zero, List.set_cons_succ]
    refine tok_run (v := Sv [bt f]) (by decide) (fun _ => by rfl) (fun y u k => by
      have hr := run_to_string k.tok
      simp only [fam, Act.put, List.setIfInBounds_toArray, List.set_cons_zero, List.set_cons_succ]
      simp [execOp, Act.eval, hr, Result.andThen]) ?_
    try simp only [Act.put, List.setIfInBounds_toArray, List.set_cons_zero, List.set_cons_succ]
    refine tok_call (fun y u k => k.call (hG ▸ rtext_any [bt f] u (by simp))) (by decide) (fun _ => by rfl) (fun y u => by simp only [fam, Act.put, List.setIfInBounds_toArray, List.set_cons_zero, List.set_cons_succ]; go_simp) ?_
    try simp only [Act.put, List.setIfInBounds_toArray, List.set_cons_zero, List.set_cons_succ]
    (refine tok_add _ _ _ _ rfl (fun _ => by rfl) (fun _ => by rfl) ?_ (by decide) (fun _ => by rfl) ?_; (focus (simp only [List.length_append, List.length_cons, List.length_nil]; omega)); try simp only [Act.put, List.setIfInBounds_toArray, List.set_cons_zero, List.set_cons_succ])
    (refine tok_pure (v := ?_) (by decide) (fun _ => by rfl) ?_ ?_; rotate_left; (focus (intro x u; simp only [fam, Act.put, List.setIfInBounds_toArray, List.set_cons_zero, List.set_cons_succ]; go_simp; with_reducible rfl)); try simp only [Act.put, List.setIfInBounds_toArray, List.set_cons_zero, List.set_cons_succ])
    refine tok_nil (fun y u k => ?_)
    simp only [fam, Act.put, List.setIfInBounds_toArray, List.set_cons_zero, List.set_cons_succ]
    have KB := hid k.bel
    clear k
    go_wp2_with fail
    go_ret
    exact ⟨by rw [HR.out]; simp, KB.out⟩
end Go.Proofs.Ytdjbgojdkaipfaa
