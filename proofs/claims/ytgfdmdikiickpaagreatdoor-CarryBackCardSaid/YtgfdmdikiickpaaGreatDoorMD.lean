/-
  Texts for the laws of this seat, merged: ParentRef, ParentRefR.
-/
import Derived.Test.YtgfdmdikiickpaaGreatDoorMA
import Derived.Test.YtgfdmdikiickpaaGreatDoorMC
/-! ParentRef -/
namespace Go.Proofs.YtgfdmdikiickpaaGreatDoor
open Go.RowKit

def digB (l : List UInt8) : Bool := l.all fun b => nibOk (bi b)
theorem digB_drop (l : List UInt8) (k : Nat) (h : k < l.length) : digB (l.drop k) = (nibOk (byteAt l k) && digB (l.drop (k + 1))) := by
  rw [List.drop_eq_getElem_cons h]
  simp only [digB, List.all_cons]
  rw [show bi l[k] = byteAt l k by simp [byteAt, List.getD, h, bi]]
set_option maxRecDepth 100000 in
set_option maxHeartbeats 1000000 in
theorem rdigits_any (s : List UInt8) (w : World) (hs : s.length ≤ 140737488355328) :
    Calls Tryz.prog 61 #[Sv s] w fun e w' => e = .returned (.bool (digB s)) ∧ w = w' := by
  go_enter Tryz.func61, Tryz.ntmps61
  go_wp2
  go_loop [3] (fun i => ∃ k : Nat, k ≤ s.length ∧ i = .int .i64 (k : Int) ∧ Hid (digB s = digB (s.drop k))) (fun i => s.length - (intOf i).toNat)
  case atStart => exact ⟨0, by omega, rfl, hid rfl⟩
  case round =>
    obtain ⟨k, hk, rfl, HR⟩ := hrel
    by_cases hlt : k < s.length
    · have n1 := byteAt_lo s k
      have n2 := byteAt_hi s k
      have HS := hid (digB_drop s k hlt)
      cases hq : nibOk (byteAt s k) with
      | true =>
        have HS' := hid (show digB (s.drop k) = digB (s.drop (k + 1)) by rw [HS.out, hq]; rfl)
        go_wp2_with (go_at_call 102; refine (rnib_any _ _ (by omega) (by omega)).mono ?_; rintro e w' ⟨rfl, rfl⟩)
        go_round
        case rel => exact ⟨k + 1, by omega, by go_num, hid (by rw [HR.out, HS'.out])⟩
        case measure => simp [intOf]; omega
      | false =>
        have HS' := hid (show digB (s.drop k) = false by rw [HS.out, hq]; rfl)
        go_wp2_with (go_at_call 102; refine (rnib_any _ _ (by omega) (by omega)).mono ?_; rintro e w' ⟨rfl, rfl⟩)
        go_ret
        exact ⟨by rw [HR.out, HS'.out]; rfl, rfl⟩
    · obtain rfl : k = s.length := by omega
      go_wp2
      go_ret
      exact ⟨by rw [HR.out, List.drop_length]; rfl, rfl⟩
theorem rdigits_bel (s : List UInt8) (w : World) (hs : s.length ≤ 140737488355328) :
    Calls Tryz.prog 61 #[Sv s] w fun e w' => e = .returned (.bool (digB s)) ∧ Below w.heap.size w w' :=
  (rdigits_any s w hs).mono fun _ _ ⟨he, h⟩ => ⟨he, h ▸ Below.refl _ _⟩
def byO (s : List UInt8) : Int := byteAt ((hexDec s).getD []) 0
theorem byteAt_nil (k : Nat) : byteAt [] k = 0 := by simp [byteAt]
set_option maxRecDepth 100000 in
theorem rbyteOf_any (s : List UInt8) (w : World) (hs : s.length ≤ 140737488355328) :
    Calls Tryz.prog 64 #[Sv s] w fun e w' => e = .returned (.int .u8 (byO s)) ∧ Below w.heap.size w w' := by
  have HO := hid (show hexOut s = .tuple #[Sv ((hexDec s).getD []), .int .i64 (if (hexDec s).isSome then 0 else 3)] from rfl)
  have HY := hid (show byO s = byteAt ((hexDec s).getD []) 0 from rfl)
  obtain ⟨l, hl⟩ : ∃ l, (hexDec s).getD [] = l := ⟨_, rfl⟩
  obtain ⟨c, hc⟩ : ∃ c : Int, (if (hexDec s).isSome then 0 else 3) = c := ⟨_, rfl⟩
  rw [hl, hc] at HO
  rw [hl] at HY
  clear hl hc
  cases l with
  | nil =>
    go_enter Tryz.func64, Tryz.ntmps64
    go_wp2_with fail
    refine (rread_any s _ hs).mono ?_; rintro e w1 ⟨rfl, hb1⟩
    rw [HO.out]
    go_wp2
    go_ret
    exact ⟨by rw [HY.out, byteAt_nil]; rfl, hb1⟩
  | cons b r =>
    have q1 : ((b :: r) == ([] : List UInt8)) = false := rfl
    have q2 : 0 < (b :: r).length := by simp
    go_enter Tryz.func64, Tryz.ntmps64
    go_wp2_with fail
    refine (rread_any s _ hs).mono ?_; rintro e w1 ⟨rfl, hb1⟩
    rw [HO.out]
    go_wp2
    go_ret
    exact ⟨by rw [HY.out]; rfl, hb1⟩
set_option maxRecDepth 100000 in
set_option maxHeartbeats 2000000 in
theorem rmay_any (v f : Int) (t x : List UInt8) (w : World) (ht : t.length = 16) (hx : x.length = 8) :
    Calls Tryz.prog 20 #[Hv v t x f] w fun e w' => e = .returned (.bool (mayB t x)) ∧ Below w.heap.size w w' := by
  have HT := hid ht
  have HX := hid hx
  have hA := Blk.new w 56 (hc v t x f).toArray
  have HA := hid hA
  have HA1 := hid hA.hcT
  have HBW := hid (ext_alloc w (.cells (hc v t x f).toArray 56))
  have HL17 := hid (show ([Value.int .u8 v] ++ b8s t).length = 17 by simp [ht])
  have HM := hid (show mayB t x = (!(decide (valH (t.take 8) = 0) && decide (valH (t.drop 8) = 0)) && !(decide (valH x = 0))) by unfold mayB; rw [tr_zero t ht, sp_zero x hx])
  clear ht hx hA
  obtain ⟨a, ha⟩ : ∃ a, valH (t.take 8) = a := ⟨_, rfl⟩
  obtain ⟨b, hb⟩ : ∃ b, valH (t.drop 8) = b := ⟨_, rfl⟩
  obtain ⟨c, hc⟩ : ∃ c, valH x = c := ⟨_, rfl⟩
  rw [ha, hb, hc] at HM
  have EA := hid ha
  have EB := hid hb
  have EC := hid hc
  clear ha hb hc
  by_cases ha : a = 0
  · by_cases hb : b = 0
    · by_cases hc : c = 0
      · have qa : (a != 0) = false := by rw [ha]; rfl
        have qb : (b != 0) = false := by rw [hb]; rfl
        have qc : (c != 0) = false := by rw [hc]; rfl
        have HM' := hid (show mayB t x = false by rw [HM.out, decide_eq_true ha, decide_eq_true hb, decide_eq_true hc]; rfl)
        clear ha hb hc HM
        go_enter Tryz.func20, Tryz.ntmps20
        go_wp2_with (refine wpList_load_seg rfl 27 (.tmp 6) rfl w.heap.size 1 16 _ _ _ t rfl HA1.out rfl Tryz.underlying27 info_trace HT.out ?_)
        refine (rhalves_any t _ HT.out).mono ?_; rintro e w1 ⟨rfl, hb1⟩
        rw [EA.out, EB.out]
        have HA3 := hid (HA.out.below hb1 HA.out.lt).hcX
        have HB3 := hid (HBW.out.trans (hb1.mono HBW.out.size))
        clear hb1
        go_wp2_with fail
        go_ret
        exact ⟨by rw [HM'.out]; rfl, HB3.out⟩
      · have qa : (a != 0) = false := by rw [ha]; rfl
        have qb : (b != 0) = false := by rw [hb]; rfl
        have qc : (c != 0) = true := by simpa using hc
        have HM' := hid (show mayB t x = false by rw [HM.out, decide_eq_true ha, decide_eq_true hb, decide_eq_false hc]; rfl)
        clear ha hb hc HM
        go_enter Tryz.func20, Tryz.ntmps20
        go_wp2_with (refine wpList_load_seg rfl 27 (.tmp 6) rfl w.heap.size 1 16 _ _ _ t rfl HA1.out rfl Tryz.underlying27 info_trace HT.out ?_)
        refine (rhalves_any t _ HT.out).mono ?_; rintro e w1 ⟨rfl, hb1⟩
        rw [EA.out, EB.out]
        have HA3 := hid (HA.out.below hb1 HA.out.lt).hcX
        have HB3 := hid (HBW.out.trans (hb1.mono HBW.out.size))
        clear hb1
        go_wp2_with fail
        go_ret
        exact ⟨by rw [HM'.out]; rfl, HB3.out⟩
    · by_cases hc : c = 0
      · have qa : (a != 0) = false := by rw [ha]; rfl
        have qb : (b != 0) = true := by simpa using hb
        have qc : (c != 0) = false := by rw [hc]; rfl
        have HM' := hid (show mayB t x = false by rw [HM.out, decide_eq_true ha, decide_eq_false hb, decide_eq_true hc]; rfl)
        clear ha hb hc HM
        go_enter Tryz.func20, Tryz.ntmps20
        go_wp2_with (refine wpList_load_seg rfl 27 (.tmp 6) rfl w.heap.size 1 16 _ _ _ t rfl HA1.out rfl Tryz.underlying27 info_trace HT.out ?_)
        refine (rhalves_any t _ HT.out).mono ?_; rintro e w1 ⟨rfl, hb1⟩
        rw [EA.out, EB.out]
        have HA3 := hid (HA.out.below hb1 HA.out.lt).hcX
        have HB3 := hid (HBW.out.trans (hb1.mono HBW.out.size))
        clear hb1
        go_wp2_with (refine wpList_load_segW rfl 29 (.tmp 18) rfl w.heap.size 17 8 _ _ _ x rfl HA3.out HL17.out Tryz.underlying29 info_span HX.out ?_)
        refine (rnum_any x _ HX.out).mono ?_; rintro e w2 ⟨rfl, hb2⟩
        rw [EC.out]
        go_wp2_with fail
        go_ret
        exact ⟨by rw [HM'.out]; rfl, HB3.out.trans (hb2.mono HB3.out.size)⟩
      · have qa : (a != 0) = false := by rw [ha]; rfl
        have qb : (b != 0) = true := by simpa using hb
        have qc : (c != 0) = true := by simpa using hc
        have HM' := hid (show mayB t x = true by rw [HM.out, decide_eq_true ha, decide_eq_false hb, decide_eq_false hc]; rfl)
        clear ha hb hc HM
        go_enter Tryz.func20, Tryz.ntmps20
        go_wp2_with (refine wpList_load_seg rfl 27 (.tmp 6) rfl w.heap.size 1 16 _ _ _ t rfl HA1.out rfl Tryz.underlying27 info_trace HT.out ?_)
        refine (rhalves_any t _ HT.out).mono ?_; rintro e w1 ⟨rfl, hb1⟩
        rw [EA.out, EB.out]
        have HA3 := hid (HA.out.below hb1 HA.out.lt).hcX
        have HB3 := hid (HBW.out.trans (hb1.mono HBW.out.size))
        clear hb1
        go_wp2_with (refine wpList_load_segW rfl 29 (.tmp 18) rfl w.heap.size 17 8 _ _ _ x rfl HA3.out HL17.out Tryz.underlying29 info_span HX.out ?_)
        refine (rnum_any x _ HX.out).mono ?_; rintro e w2 ⟨rfl, hb2⟩
        rw [EC.out]
        go_wp2_with fail
        go_ret
        exact ⟨by rw [HM'.out]; rfl, HB3.out.trans (hb2.mono HB3.out.size)⟩
  · by_cases hb : b = 0
    · by_cases hc : c = 0
      · have qa : (a != 0) = true := by simpa using ha
        have qb : (b != 0) = false := by rw [hb]; rfl
        have qc : (c != 0) = false := by rw [hc]; rfl
        have HM' := hid (show mayB t x = false by rw [HM.out, decide_eq_false ha, decide_eq_true hb, decide_eq_true hc]; rfl)
        clear ha hb hc HM
        go_enter Tryz.func20, Tryz.ntmps20
        go_wp2_with (refine wpList_load_seg rfl 27 (.tmp 6) rfl w.heap.size 1 16 _ _ _ t rfl HA1.out rfl Tryz.underlying27 info_trace HT.out ?_)
        refine (rhalves_any t _ HT.out).mono ?_; rintro e w1 ⟨rfl, hb1⟩
        rw [EA.out, EB.out]
        have HA3 := hid (HA.out.below hb1 HA.out.lt).hcX
        have HB3 := hid (HBW.out.trans (hb1.mono HBW.out.size))
        clear hb1
        go_wp2_with (refine wpList_load_segW rfl 29 (.tmp 18) rfl w.heap.size 17 8 _ _ _ x rfl HA3.out HL17.out Tryz.underlying29 info_span HX.out ?_)
        refine (rnum_any x _ HX.out).mono ?_; rintro e w2 ⟨rfl, hb2⟩
        rw [EC.out]
        go_wp2_with fail
        go_ret
        exact ⟨by rw [HM'.out]; rfl, HB3.out.trans (hb2.mono HB3.out.size)⟩
      · have qa : (a != 0) = true := by simpa using ha
        have qb : (b != 0) = false := by rw [hb]; rfl
        have qc : (c != 0) = true := by simpa using hc
        have HM' := hid (show mayB t x = true by rw [HM.out, decide_eq_false ha, decide_eq_true hb, decide_eq_false hc]; rfl)
        clear ha hb hc HM
        go_enter Tryz.func20, Tryz.ntmps20
        go_wp2_with (refine wpList_load_seg rfl 27 (.tmp 6) rfl w.heap.size 1 16 _ _ _ t rfl HA1.out rfl Tryz.underlying27 info_trace HT.out ?_)
        refine (rhalves_any t _ HT.out).mono ?_; rintro e w1 ⟨rfl, hb1⟩
        rw [EA.out, EB.out]
        have HA3 := hid (HA.out.below hb1 HA.out.lt).hcX
        have HB3 := hid (HBW.out.trans (hb1.mono HBW.out.size))
        clear hb1
        go_wp2_with (refine wpList_load_segW rfl 29 (.tmp 18) rfl w.heap.size 17 8 _ _ _ x rfl HA3.out HL17.out Tryz.underlying29 info_span HX.out ?_)
        refine (rnum_any x _ HX.out).mono ?_; rintro e w2 ⟨rfl, hb2⟩
        rw [EC.out]
        go_wp2_with fail
        go_ret
        exact ⟨by rw [HM'.out]; rfl, HB3.out.trans (hb2.mono HB3.out.size)⟩
    · by_cases hc : c = 0
      · have qa : (a != 0) = true := by simpa using ha
        have qb : (b != 0) = true := by simpa using hb
        have qc : (c != 0) = false := by rw [hc]; rfl
        have HM' := hid (show mayB t x = false by rw [HM.out, decide_eq_false ha, decide_eq_false hb, decide_eq_true hc]; rfl)
        clear ha hb hc HM
        go_enter Tryz.func20, Tryz.ntmps20
        go_wp2_with (refine wpList_load_seg rfl 27 (.tmp 6) rfl w.heap.size 1 16 _ _ _ t rfl HA1.out rfl Tryz.underlying27 info_trace HT.out ?_)
        refine (rhalves_any t _ HT.out).mono ?_; rintro e w1 ⟨rfl, hb1⟩
        rw [EA.out, EB.out]
        have HA3 := hid (HA.out.below hb1 HA.out.lt).hcX
        have HB3 := hid (HBW.out.trans (hb1.mono HBW.out.size))
        clear hb1
        go_wp2_with (refine wpList_load_segW rfl 29 (.tmp 18) rfl w.heap.size 17 8 _ _ _ x rfl HA3.out HL17.out Tryz.underlying29 info_span HX.out ?_)
        refine (rnum_any x _ HX.out).mono ?_; rintro e w2 ⟨rfl, hb2⟩
        rw [EC.out]
        go_wp2_with fail
        go_ret
        exact ⟨by rw [HM'.out]; rfl, HB3.out.trans (hb2.mono HB3.out.size)⟩
      · have qa : (a != 0) = true := by simpa using ha
        have qb : (b != 0) = true := by simpa using hb
        have qc : (c != 0) = true := by simpa using hc
        have HM' := hid (show mayB t x = true by rw [HM.out, decide_eq_false ha, decide_eq_false hb, decide_eq_false hc]; rfl)
        clear ha hb hc HM
        go_enter Tryz.func20, Tryz.ntmps20
        go_wp2_with (refine wpList_load_seg rfl 27 (.tmp 6) rfl w.heap.size 1 16 _ _ _ t rfl HA1.out rfl Tryz.underlying27 info_trace HT.out ?_)
        refine (rhalves_any t _ HT.out).mono ?_; rintro e w1 ⟨rfl, hb1⟩
        rw [EA.out, EB.out]
        have HA3 := hid (HA.out.below hb1 HA.out.lt).hcX
        have HB3 := hid (HBW.out.trans (hb1.mono HBW.out.size))
        clear hb1
        go_wp2_with (refine wpList_load_segW rfl 29 (.tmp 18) rfl w.heap.size 17 8 _ _ _ x rfl HA3.out HL17.out Tryz.underlying29 info_span HX.out ?_)
        refine (rnum_any x _ HX.out).mono ?_; rintro e w2 ⟨rfl, hb2⟩
        rw [EC.out]
        go_wp2_with fail
        go_ret
        exact ⟨by rw [HM'.out]; rfl, HB3.out.trans (hb2.mono HB3.out.size)⟩
set_option maxRecDepth 100000 in
set_option maxHeartbeats 4000000 in
theorem rtextH_any (v f : Int) (t x : List UInt8) (w : World) (ht : t.length = 16) (hx : x.length = 8) (f0 : 0 ≤ f) (f1 : f ≤ 255) :
    Calls Tryz.prog 41 #[Hv v t x f] w fun e w' => e = .returned (Sv (textH t x f)) ∧ Below w.heap.size w w' := by
  have HT := hid ht
  have HX := hid hx
  have HB := hid (Blk.new w 56 (hc v t x f).toArray)
  have HBW := hid (ext_alloc w (.cells (hc v t x f).toArray 56))
  have l1 := hid (hexEnc_length t)
  have l2 := hid (hexEnc_length x)
  clear ht hx
  cases hm : mayB t x with
  | false =>
    have HR := hid (show textH t x f = [] by unfold textH; rw [hm]; rfl)
    have HM := hid hm
    clear hm
    go_enter Tryz.func41, Tryz.ntmps41
    go_wp2_with (refine wpList_load_hv rfl 56 (.tmp 1) rfl w.heap.size _ _ v f t x rfl HB.out Tryz.underlying56 rfl info_rhdr HT.out HX.out ?_)
    refine (rmay_any v f t x _ HT.out HX.out).mono ?_; rintro e w1 ⟨rfl, hb1⟩
    rw [HM.out]
    go_wp2_with fail
    go_ret
    exact ⟨by rw [HR.out]; rfl, HBW.out.trans (hb1.mono HBW.out.size)⟩
  | true =>
    have HR := hid (show textH t x f = [48, 48, 45] ++ hexEnc t ++ [45] ++ hexEnc x ++ [45] ++ hexEnc [bt f] by unfold textH; rw [if_pos hm])
    have HM := hid hm
    clear hm
    go_enter Tryz.func41, Tryz.ntmps41
    go_wp2_with (refine wpList_load_hv rfl 56 (.tmp 1) rfl w.heap.size _ _ v f t x rfl HB.out Tryz.underlying56 rfl info_rhdr HT.out HX.out ?_)
    refine (rmay_any v f t x _ HT.out HX.out).mono ?_; rintro e w1 ⟨rfl, hb1⟩
    rw [HM.out]
    go_wp2_with fail
    have HBW1 := hid (HBW.out.trans (hb1.mono HBW.out.size))
    have hS0 := hid (Th.start (HB.out.below hb1 HB.out.lt) HBW1.out HT.out HX.out f0 f1)
    obtain ⟨E, hE⟩ : ∃ E, hexEnc t = E := ⟨_, rfl⟩
    obtain ⟨D, hD⟩ : ∃ D, hexEnc x = D := ⟨_, rfl⟩
    obtain ⟨G, hG⟩ : ∃ G, hexEnc [bt f] = G := ⟨_, rfl⟩
    have le : E.length ≤ 32 := by rw [← hE, l1.out, HT.out]; decide
    have ld : D.length ≤ 16 := by rw [← hD, l2.out, HX.out]; decide
    have lg : G.length ≤ 2 := by rw [← hG]; exact Nat.le_refl _
    rw [hE, hD, hG] at HR
    clear hb1 l1 l2
    refine region_token (Th w w.heap.size 56 v f t x) 20 _ (by kernel_rfl) (by kernel_rfl) (hS0.out.ext (ext_drew _)) ?_
    clear hS0
    (refine tok_pure (v := ?_) (by decide) (fun _ => by rfl) ?_ ?_; rotate_left; (focus (intro x u; simp only [fam]; go_simp; with_reducible rfl)); try simp only [Act.put, List.setIfInBounds_toArray, List.set_cons_zero, List.set_cons_succ])
    refine tok_load 27 (.tmp 6) rfl (by decide) (fun _ => by rfl) (fun y u k => k.loadT HT.out) ?_
    try simp only [Act.put, List.setIfInBounds_toArray, List.set_cons_zero, List.set_cons_succ]
    refine tok_call (fun y u k => k.call (rtracebytes_any t u HT.out)) (by decide) (fun _ => by rfl) (fun y u => by simp only [fam]; go_simp) ?_
    try simp only [Act.put, List.setIfInBounds_toArray, List.set_cons_zero, List.set_cons_succ]
    refine tok_call (fun y u k => k.call (hE ▸ rtext_any t u (by rw [HT.out]; decide))) (by decide) (fun _ => by rfl) (fun y u => by simp only [fam]; go_simp) ?_
    try simp only [Act.put, List.setIfInBounds_toArray, List.set_cons_zero, List.set_cons_succ]
    (refine tok_add _ _ _ _ rfl (fun _ => by rfl) (fun _ => by rfl) ?_ (by decide) (fun _ => by rfl) ?_; (focus (simp only [List.length_cons, List.length_nil]; omega)); try simp only [Act.put, List.setIfInBounds_toArray, List.set_cons_zero, List.set_cons_succ])
    (refine tok_add _ _ _ _ rfl (fun _ => by rfl) (fun _ => by rfl) ?_ (by decide) (fun _ => by rfl) ?_; (focus (simp only [List.length_append, List.length_cons, List.length_nil]; omega)); try simp only [Act.put, List.setIfInBounds_toArray, List.set_cons_zero, List.set_cons_succ])
    (refine tok_pure (v := ?_) (by decide) (fun _ => by rfl) ?_ ?_; rotate_left; (focus (intro x u; simp only [fam]; go_simp; with_reducible rfl)); try simp only [Act.put, List.setIfInBounds_toArray, List.set_cons_zero, List.set_cons_succ])
    refine tok_load 29 (.tmp 12) rfl (by decide) (fun _ => by rfl) (fun y u k => k.loadX HT.out HX.out) ?_
    try simp only [Act.put, List.setIfInBounds_toArray, List.set_cons_zero, List.set_cons_succ]
    refine tok_call (fun y u k => k.call (rspanbytes_any x u HX.out)) (by decide) (fun _ => by rfl) (fun y u => by simp only [fam]; go_simp) ?_
    try simp only [Act.put, List.setIfInBounds_toArray, List.set_cons_zero, List.set_cons_succ]
    refine tok_call (fun y u k => k.call (hD ▸ rtext_any x u (by rw [HX.out]; decide))) (by decide) (fun _ => by rfl) (fun y u => by simp only [fam]; go_simp) ?_
    try simp only [Act.put, List.setIfInBounds_toArray, List.set_cons_zero, List.set_cons_succ]
    (refine tok_add _ _ _ _ rfl (fun _ => by rfl) (fun _ => by rfl) ?_ (by decide) (fun _ => by rfl) ?_; (focus (simp only [List.length_append, List.length_cons, List.length_nil]; omega)); try simp only [Act.put, List.setIfInBounds_toArray, List.set_cons_zero, List.set_cons_succ])
    (refine tok_add _ _ _ _ rfl (fun _ => by rfl) (fun _ => by rfl) ?_ (by decide) (fun _ => by rfl) ?_; (focus (simp only [List.length_append, List.length_cons, List.length_nil]; omega)); try simp only [Act.put, List.setIfInBounds_toArray, List.set_cons_zero, List.set_cons_succ])
    (refine tok_pure (v := ?_) (by decide) (fun _ => by rfl) ?_ ?_; rotate_left; (focus (intro x u; simp only [fam]; go_simp; with_reducible rfl)); try simp only [Act.put, List.setIfInBounds_toArray, List.set_cons_zero, List.set_cons_succ])
    refine tok_load 5 (.tmp 18) rfl (by decide) (fun _ => by rfl) (fun y u k => k.loadF HT.out HX.out) ?_
    try simp only [Act.put, List.setIfInBounds_toArray, List.set_cons_zero, List.set_cons_succ]
    refine tok_make rfl (by rfl) (fun y u k => ⟨_, _, by go_simp, k.make f0 f1⟩) ?_
    try simp only [Act.put, List.setIfInBounds_toArray, List.set_cons_zero, List.set_cons_succ]
    refine tok_run (v := Sv [bt f]) (by decide) (fun _ => by rfl) (fun y u k => by
      have hr := run_to_string k.tok
      simp only [fam, Act.put, List.setIfInBounds_toArray, List.set_cons_zero, List.set_cons_succ]
      simp [execOp, Act.eval, hr, Result.andThen]) ?_
    try simp only [Act.put, List.setIfInBounds_toArray, List.set_cons_zero, List.set_cons_succ]
    refine tok_call (fun y u k => k.call (hG ▸ rtext_any [bt f] u (by simp))) (by decide) (fun _ => by rfl) (fun y u => by simp only [fam, Act.put, List.setIfInBounds_toArray, List.set_cons_zero, List.set_cons_succ]; go_simp) ?_
    try simp only [Act.put, List.setIfInBounds_toArray, List.set_cons_zero, List.set_cons_succ]
    (refine tok_add _ _ _ _ rfl (fun _ => by rfl) (fun _ => by rfl) ?_ (by decide) (fun _ => by rfl) ?_; (focus (simp only [List.length_append, List.length_cons, List.length_nil]; omega)); try simp only [Act.put, List.setIfInBounds_toArray, List.set_cons_zero, List.set_cons_succ])
    (refine tok_pure (v := ?_) (by decide) (fun _ => by rfl) ?_ ?_; rotate_left; (focus (intro x u; simp only [fam, Act.put, List.setIfInBounds_toArray, List.set_cons_zero, List.set_cons_succ]; go_simp; with_reducible rfl)); try simp only [Act.put, List.setIfInBounds_toArray, List.set_cons_zero, List.set_cons_succ])
    refine tok_nil (fun y u k => ?_)
    simp only [fam, Act.put, List.setIfInBounds_toArray, List.set_cons_zero, List.set_cons_succ]
    have KB := hid k.bel
    clear k
    go_wp2_with fail
    go_ret
    exact ⟨by rw [HR.out]; simp, KB.out⟩
end Go.Proofs.YtgfdmdikiickpaaGreatDoor

/-! ParentRefR -/
namespace Go.Proofs.YtgfdmdikiickpaaGreatDoor
open Go.RowKit

set_option maxRecDepth 100000 in
theorem built_rzero : Tryz.prog.built 56 [] = some (hc 0 (zb 16) (zb 8) 0).toArray := by kernel_rfl
theorem hexDec_two (a b : UInt8) : hexDec [a, b] = if nibOk (bi a) && nibOk (bi b) then some [bt (nibV (bi a) * 16 + nibV (bi b))] else none := by
  simp only [hexDec]; split <;> rfl
theorem two_of {l : List UInt8} (h : l.length = 2) : ∃ a b, l = [a, b] := by
  match l, h with
  | [a, b], _ => exact ⟨a, b, rfl⟩
theorem two_ok {l : List UInt8} (h : l.length = 2) : oneOk l = digB l ∧ byO l = oneV l := by
  obtain ⟨a, b, rfl⟩ := two_of h
  unfold oneOk byO oneV
  rw [hexDec_two]
  cases ha : nibOk (bi a) <;> cases hb : nibOk (bi b) <;> simp [digB, ha, hb, byteAt]
theorem two_val {l : List UInt8} (h : l.length = 2) (hd : digB l = true) : (oneV l = 255 ↔ l = [102, 102]) ∧ (oneV l = 0 ↔ l = [48, 48]) := by
  obtain ⟨a, b, rfl⟩ := two_of h
  have hab : nibOk (bi a) = true ∧ nibOk (bi b) = true := by simpa [digB] using hd
  obtain ⟨ha, hb⟩ := hab
  have va := nibV_bd (bi a)
  have vb := nibV_bd (bi b)
  have da := dig_nib _ ha
  have db := dig_nib _ hb
  have e : oneV [a, b] = nibV (bi a) * 16 + nibV (bi b) := by
    unfold oneV
    rw [hexDec_two, ha, hb]
    exact bi_bt _ (by omega) (by omega)
  rw [e]
  have key : ∀ (c : UInt8) (n m : Int), nibV (bi c) = n → digI (nibV (bi c)) = bi c → digI n = m → bi c = m := fun c n m h1 h2 h3 => by rw [← h2, h1, h3]
  refine ⟨⟨fun h => ?_, ?_⟩, ⟨fun h => ?_, ?_⟩⟩
  · have ea : bi a = bi 102 := key a 15 102 (by omega) da rfl
    have eb : bi b = bi 102 := key b 15 102 (by omega) db rfl
    rw [bi_inj ea, bi_inj eb]
  · intro h
    injection h with h1 h2
    injection h2 with h2 _
    subst h1 h2
    decide
  · have ea : bi a = bi 48 := key a 0 48 (by omega) da rfl
    have eb : bi b = bi 48 := key b 0 48 (by omega) db rfl
    rw [bi_inj ea, bi_inj eb]
  · intro h
    injection h with h1 h2
    injection h2 with h2 _
    subst h1 h2
    decide
theorem digB_app (a b : List UInt8) : digB (a ++ b) = (digB a && digB b) := by simp [digB]
theorem hexDec_dig : ∀ l : List UInt8, l.length % 2 = 0 → (hexDec l).isSome = digB l
  | [], _ => rfl
  | [_], h => by simp at h
  | a :: b :: r, h => by
    have ih := hexDec_dig r (by simp only [List.length_cons] at h; omega)
    simp only [hexDec, digB, List.all_cons] at ih ⊢
    cases ha : nibOk (bi a) <;> cases hb : nibOk (bi b) <;> simp [ih]
theorem traceC_dig {s : List UInt8} (h : s.length = 32) : (traceC s = 3 ↔ digB s = false) := by
  have hd := hexDec_dig s (by omega)
  unfold traceC
  cases hx : hexDec s with
  | none => rw [hx] at hd; simp at hd; simp [← hd]
  | some b =>
    rw [hx] at hd
    simp only [Option.isSome_some] at hd
    rw [← hd]
    simp only [h, true_or, if_true]
    split <;> simp
theorem spanC_dig {s : List UInt8} (h : s.length = 16) : (spanC s = 3 ↔ digB s = false) := by
  have hd := hexDec_dig s (by omega)
  unfold spanC
  cases hx : hexDec s with
  | none => rw [hx] at hd; simp at hd; simp [← hd]
  | some b =>
    rw [hx] at hd
    simp only [Option.isSome_some] at hd
    rw [← hd]
    simp only [h, if_true]
    split <;> simp
set_option maxRecDepth 100000 in
set_option maxHeartbeats 4000000 in
theorem rhread_no (s : List UInt8) (w : World) (hs : s.length ≤ 140737488355328) (hsp : splitOk s = false) :
    Calls Tryz.prog 28 #[Sv s] w fun e w' => e = .returned (hdrOut (readH s)) ∧ Below w.heap.size w w' := by
  obtain ⟨W, hW⟩ : ∃ W, W = w.alloc (.cells #[.int .u8 0, .int .u8 0, .int .u8 0, .int .u8 0, .int .u8 0, .int .u8 0, .int .u8 0, .int .u8 0, .int .u8 0, .int .u8 0, .int .u8 0, .int .u8 0, .int .u8 0, .int .u8 0, .int .u8 0, .int .u8 0, .int .u8 0, .int .u8 0, .int .u8 0, .int .u8 0, .int .u8 0, .int .u8 0, .int .u8 0, .int .u8 0, .int .u8 0, .int .u8 0] 56) := ⟨_, rfl⟩
  have HW := hid hW
  have HA : Hid (Blk W w.heap.size 56 (hc 0 (zb 16) (zb 8) 0).toArray) := by rw [hW]; exact Blk.new w _ _
  have HBW : Hid (Below w.heap.size w W) := by rw [hW]; exact ext_alloc w _
  clear hW
  have h3 : 55 ≤ s.length → byteAt s 2 = 45 → byteAt s 35 = 45 → byteAt s 52 ≠ 45 := fun a b c d => by
    have : splitOk s = true := by unfold splitOk; exact decide_eq_true ⟨a, b, c, d⟩
    rw [hsp] at this; cases this
  have HR := hid (show hdrOut (readH s) = .tuple #[Hv 0 (zb 16) (zb 8) 0, .int .i64 3] by rw [← hdrOut_bad]; unfold readH; rw [hsp]; rfl)
  clear hsp
  by_cases h0 : s.length < 55
  · have q0 : (s.length : Int) < 55 := by omega
    go_enter Tryz.func28, Tryz.ntmps28
    go_wp2_with fail
    rw [← HW.out]
    refine region_steady (fun u => Below W.heap.size W u) (by kernel_rfl) (by kernel_rfl) (ext_drew _) ?_
    repeat (first
      | (refine steady_off (by rfl) ?_; try simp only [Act.put, List.setIfInBounds_toArray, List.set_cons_zero, List.set_cons_succ])
      | (refine steady_pure (v := ?_) (by rfl) ?_ ?_; rotate_left; (focus (intro u; go_simp; with_reducible rfl)); try simp only [Act.put, List.setIfInBounds_toArray, List.set_cons_zero, List.set_cons_succ]))
    refine steady_nil (fun u1 hu1 => ?_)
    have HA1 := hid (HA.out.below hu1 HA.out.lt)
    have HB1 := hid (HBW.out.trans (hu1.mono HBW.out.size))
    clear hu1
    go_wp2_with (first
      | (refine wpList_build_to rfl 56 #[] rfl [] _ rfl built_rzero ?_; change wpList _ _ _ _ (Act.put _ _ (Hv 0 (zb 16) (zb 8) 0)) _)
      | (refine wpList_store_hv rfl 56 (.tmp 2) (.tmp 36) rfl w.heap.size _ 0 0 0 0 (zb 16) (zb 8) (zb 16) (zb 8) rfl rfl HA1.out info_rhdr (zb_length _) (zb_length _) (zb_length _) (zb_length _) ?_; intro w9 hw9 hA9; have HA9 := hid hA9; have HW9 := hid hw9; clear hw9 hA9))
    exact bodyPost_ret (results_hv2 rfl _ _ _ _ _ 0 0 (zb 16) (zb 8) rfl HA9.out Tryz.underlying56 rfl info_rhdr (zb_length _) (zb_length _)) rfl ⟨by rw [HR.out]; rfl, by rw [HW9.out]; exact setRow_below HB1.out (Nat.le_refl _) _⟩
  have k0 : 55 ≤ s.length := by omega
  have q0 : ¬ ((s.length : Int) < 55) := by omega
  have HQ0 := hid (show decide ((s.length : Int) < 55) = false from decide_eq_false q0)
  have q2 : (2 : Int) < (s.length : Int) := by omega
  have q35 : (35 : Int) < (s.length : Int) := by omega
  have q52 : (52 : Int) < (s.length : Int) := by omega
  by_cases h1 : byteAt s 2 = 45
  case neg =>
    have b1 : (byteAt s 2 != 45) = true := by simpa using h1
    clear h1
    go_enter Tryz.func28, Tryz.ntmps28
    go_wp2_with fail
    rw [← HW.out]
    refine region_steady (fun u => Below W.heap.size W u) (by kernel_rfl) (by kernel_rfl) (ext_drew _) ?_
    have qd0 := HQ0.out
    repeat (first
      | (refine steady_off (by rfl) ?_; try simp only [Act.put, List.setIfInBounds_toArray, List.set_cons_zero, List.set_cons_succ])
      | (refine steady_pure (v := ?_) (by rfl) ?_ ?_; rotate_left; (focus (intro u; go_simp; with_reducible rfl)); try simp only [Act.put, List.setIfInBounds_toArray, List.set_cons_zero, List.set_cons_succ]))
    refine steady_nil (fun u1 hu1 => ?_)
    clear qd0
    have HA1 := hid (HA.out.below hu1 HA.out.lt)
    have HB1 := hid (HBW.out.trans (hu1.mono HBW.out.size))
    clear hu1
    go_wp2_with (first
      | (refine wpList_build_to rfl 56 #[] rfl [] _ rfl built_rzero ?_; change wpList _ _ _ _ (Act.put _ _ (Hv 0 (zb 16) (zb 8) 0)) _)
      | (refine wpList_store_hv rfl 56 (.tmp 2) (.tmp 36) rfl w.heap.size _ 0 0 0 0 (zb 16) (zb 8) (zb 16) (zb 8) rfl rfl HA1.out info_rhdr (zb_length _) (zb_length _) (zb_length _) (zb_length _) ?_; intro w9 hw9 hA9; have HA9 := hid hA9; have HW9 := hid hw9; clear hw9 hA9))
    exact bodyPost_ret (results_hv2 rfl _ _ _ _ _ 0 0 (zb 16) (zb 8) rfl HA9.out Tryz.underlying56 rfl info_rhdr (zb_length _) (zb_length _)) rfl ⟨by rw [HR.out]; rfl, by rw [HW9.out]; exact setRow_below HB1.out (Nat.le_refl _) _⟩
  have b1 : (byteAt s 2 != 45) = false := by simpa using h1
  clear h1
  by_cases h2 : byteAt s 35 = 45
  case neg =>
    have b2 : (byteAt s 35 != 45) = true := by simpa using h2
    clear h2
    go_enter Tryz.func28, Tryz.ntmps28
    go_wp2_with fail
    rw [← HW.out]
    refine region_steady (fun u => Below W.heap.size W u) (by kernel_rfl) (by kernel_rfl) (ext_drew _) ?_
    have qd0 := HQ0.out
    repeat (first
      | (refine steady_off (by rfl) ?_; try simp only [Act.put, List.setIfInBounds_toArray, List.set_cons_zero, List.set_cons_succ])
      | (refine steady_pure (v := ?_) (by rfl) ?_ ?_; rotate_left; (focus (intro u; go_simp; with_reducible rfl)); try simp only [Act.put, List.setIfInBounds_toArray, List.set_cons_zero, List.set_cons_succ]))
    refine steady_nil (fun u1 hu1 => ?_)
    clear qd0
    have HA1 := hid (HA.out.below hu1 HA.out.lt)
    have HB1 := hid (HBW.out.trans (hu1.mono HBW.out.size))
    clear hu1
    go_wp2_with (first
      | (refine wpList_build_to rfl 56 #[] rfl [] _ rfl built_rzero ?_; change wpList _ _ _ _ (Act.put _ _ (Hv 0 (zb 16) (zb 8) 0)) _)
      | (refine wpList_store_hv rfl 56 (.tmp 2) (.tmp 36) rfl w.heap.size _ 0 0 0 0 (zb 16) (zb 8) (zb 16) (zb 8) rfl rfl HA1.out info_rhdr (zb_length _) (zb_length _) (zb_length _) (zb_length _) ?_; intro w9 hw9 hA9; have HA9 := hid hA9; have HW9 := hid hw9; clear hw9 hA9))
    exact bodyPost_ret (results_hv2 rfl _ _ _ _ _ 0 0 (zb 16) (zb 8) rfl HA9.out Tryz.underlying56 rfl info_rhdr (zb_length _) (zb_length _)) rfl ⟨by rw [HR.out]; rfl, by rw [HW9.out]; exact setRow_below HB1.out (Nat.le_refl _) _⟩
  have b2 : (byteAt s 35 != 45) = false := by simpa using h2
  clear h2
  have b3 : (byteAt s 52 != 45) = true := by simpa using h3 k0 (by simpa using b1) (by simpa using b2)
  clear h3
  go_enter Tryz.func28, Tryz.ntmps28
  go_wp2_with fail
  rw [← HW.out]
  refine region_steady (fun u => Below W.heap.size W u) (by kernel_rfl) (by kernel_rfl) (ext_drew _) ?_
  have qd0 := HQ0.out
  repeat (first
    | (refine steady_off (by rfl) ?_; try simp only [Act.put, List.setIfInBounds_toArray, List.set_cons_zero, List.set_cons_succ])
    | (refine steady_pure (v := ?_) (by rfl) ?_ ?_; rotate_left; (focus (intro u; go_simp; with_reducible rfl)); try simp only [Act.put, List.setIfInBounds_toArray, List.set_cons_zero, List.set_cons_succ]))
  refine steady_nil (fun u1 hu1 => ?_)
  clear qd0
  have HA1 := hid (HA.out.below hu1 HA.out.lt)
  have HB1 := hid (HBW.out.trans (hu1.mono HBW.out.size))
  clear hu1
  go_wp2_with (first
    | (refine wpList_build_to rfl 56 #[] rfl [] _ rfl built_rzero ?_; change wpList _ _ _ _ (Act.put _ _ (Hv 0 (zb 16) (zb 8) 0)) _)
    | (refine wpList_store_hv rfl 56 (.tmp 2) (.tmp 36) rfl w.heap.size _ 0 0 0 0 (zb 16) (zb 8) (zb 16) (zb 8) rfl rfl HA1.out info_rhdr (zb_length _) (zb_length _) (zb_length _) (zb_length _) ?_; intro w9 hw9 hA9; have HA9 := hid hA9; have HW9 := hid hw9; clear hw9 hA9))
  exact bodyPost_ret (results_hv2 rfl _ _ _ _ _ 0 0 (zb 16) (zb 8) rfl HA9.out Tryz.underlying56 rfl info_rhdr (zb_length _) (zb_length _)) rfl ⟨by rw [HR.out]; rfl, by rw [HW9.out]; exact setRow_below HB1.out (Nat.le_refl _) _⟩
set_option maxRecDepth 100000 in
set_option maxHeartbeats 4000000 in
theorem rhread_dig (s : List UInt8) (w : World) (hs : s.length ≤ 140737488355328) (hsp : splitOk s = true) (hd : digB (pV s ++ pF s) = false) :
    Calls Tryz.prog 28 #[Sv s] w fun e w' => e = .returned (hdrOut (readH s)) ∧ Below w.heap.size w w' := by
  obtain ⟨W, hW⟩ : ∃ W, W = w.alloc (.cells #[.int .u8 0, .int .u8 0, .int .u8 0, .int .u8 0, .int .u8 0, .int .u8 0, .int .u8 0, .int .u8 0, .int .u8 0, .int .u8 0, .int .u8 0, .int .u8 0, .int .u8 0, .int .u8 0, .int .u8 0, .int .u8 0, .int .u8 0, .int .u8 0, .int .u8 0, .int .u8 0, .int .u8 0, .int .u8 0, .int .u8 0, .int .u8 0, .int .u8 0, .int .u8 0] 56) := ⟨_, rfl⟩
  have HW := hid hW
  have HA : Hid (Blk W w.heap.size 56 (hc 0 (zb 16) (zb 8) 0).toArray) := by rw [hW]; exact Blk.new w _ _
  have HBW : Hid (Below w.heap.size w W) := by rw [hW]; exact ext_alloc w _
  clear hW
  have hsp' : 55 ≤ s.length ∧ byteAt s 2 = 45 ∧ byteAt s 35 = 45 ∧ byteAt s 52 = 45 := by unfold splitOk at hsp; exact of_decide_eq_true hsp
  obtain ⟨k0, h1, h2, h3⟩ := hsp'
  have q0 : ¬ ((s.length : Int) < 55) := by omega
  have HQ0 := hid (show decide ((s.length : Int) < 55) = false from decide_eq_false q0)
  have q2 : (2 : Int) < (s.length : Int) := by omega
  have q35 : (35 : Int) < (s.length : Int) := by omega
  have q52 : (52 : Int) < (s.length : Int) := by omega
  have q55 : (55 : Int) ≤ (s.length : Int) := by omega
  have q22 : (2 : Int) ≤ (s.length : Int) := by omega
  have q35' : (35 : Int) ≤ (s.length : Int) := by omega
  have q52' : (52 : Int) ≤ (s.length : Int) := by omega
  have b1 : (byteAt s 2 != 45) = false := by simpa using h1
  have b2 : (byteAt s 35 != 45) = false := by simpa using h2
  have b3 : (byteAt s 52 != 45) = false := by simpa using h3
  clear h1 h2 h3
  have lV : (pV s).length = 2 := by unfold pV; simp; omega
  have lF : (pF s).length = 2 := by unfold pF; simp; omega
  have HR := hid (show hdrOut (readH s) = .tuple #[Hv 0 (zb 16) (zb 8) 0, .int .i64 3] by
    rw [← hdrOut_bad]; unfold readH; rw [if_pos hsp, (two_ok lV).1, (two_ok lF).1]
    rw [digB_app] at hd
    rw [if_neg (by intro h; rw [h.1, h.2] at hd; cases hd)])
  have HD := hid (show digB (s.take 2 ++ (s.drop 53).take 2) = false from hd)
  clear hsp hd lV lF
  go_enter Tryz.func28, Tryz.ntmps28
  go_wp2_with fail
  rw [← HW.out]
  refine region_steady (fun u => Below W.heap.size W u) (by kernel_rfl) (by kernel_rfl) (ext_drew _) ?_
  have qd0 := HQ0.out
  repeat (first
    | (refine steady_off (by rfl) ?_; try simp only [Act.put, List.setIfInBounds_toArray, List.set_cons_zero, List.set_cons_succ])
    | (refine steady_pure (v := ?_) (by rfl) ?_ ?_; rotate_left; (focus (intro u; go_simp; with_reducible rfl)); try simp only [Act.put, List.setIfInBounds_toArray, List.set_cons_zero, List.set_cons_succ]))
  (refine steady_add _ _ _ _ rfl (by rfl) (by rfl) ?_ (by rfl) ?_; (focus (simp only [List.length_take, List.length_drop]; omega)); try simp only [Act.put, List.setIfInBounds_toArray, List.set_cons_zero, List.set_cons_succ])
  refine steady_call (fun u hu => bel_call hu (HD.out ▸ rdigits_bel _ u (by simp only [List.length_append, List.length_take, List.length_drop]; omega))) (by rfl) (fun u => by go_simp) ?_
  try simp only [Act.put, List.setIfInBounds_toArray, List.set_cons_zero, List.set_cons_succ]
  repeat (first
    | (refine steady_off (by rfl) ?_; try simp only [Act.put, List.setIfInBounds_toArray, List.set_cons_zero, List.set_cons_succ])
    | (refine steady_pure (v := ?_) (by rfl) ?_ ?_; rotate_left; (focus (intro u; go_simp; with_reducible rfl)); try simp only [Act.put, List.setIfInBounds_toArray, List.set_cons_zero, List.set_cons_succ]))
  refine steady_nil (fun u1 hu1 => ?_)
  clear qd0
  have HA1 := hid (HA.out.below hu1 HA.out.lt)
  have HB1 := hid (HBW.out.trans (hu1.mono HBW.out.size))
  clear hu1 HD HA HBW
  go_wp2_with (first
    | (refine wpList_build_to rfl 56 #[] rfl [] _ rfl built_rzero ?_; change wpList _ _ _ _ (Act.put _ _ (Hv 0 (zb 16) (zb 8) 0)) _)
    | (refine wpList_store_hv rfl 56 (.tmp 2) (.tmp 36) rfl w.heap.size _ 0 0 0 0 (zb 16) (zb 8) (zb 16) (zb 8) rfl rfl HA1.out info_rhdr (zb_length _) (zb_length _) (zb_length _) (zb_length _) ?_; intro w9 hw9 hA9; have HA9 := hid hA9; have HW9 := hid hw9; clear hw9 hA9))
  exact bodyPost_ret (results_hv2 rfl _ _ _ _ _ 0 0 (zb 16) (zb 8) rfl HA9.out Tryz.underlying56 rfl info_rhdr (zb_length _) (zb_length _)) rfl ⟨by rw [HR.out]; rfl, by rw [HW9.out]; exact setRow_below HB1.out (Nat.le_refl _) _⟩
set_option maxRecDepth 100000 in
set_option maxHeartbeats 4000000 in
theorem rhread_ver (s : List UInt8) (w : World) (hs : s.length ≤ 140737488355328) (hsp : splitOk s = true) (hd : digB (pV s ++ pF s) = true) (hv : verBad s) :
    Calls Tryz.prog 28 #[Sv s] w fun e w' => e = .returned (hdrOut (readH s)) ∧ Below w.heap.size w w' := by
  obtain ⟨W, hW⟩ : ∃ W, W = w.alloc (.cells #[.int .u8 0, .int .u8 0, .int .u8 0, .int .u8 0, .int .u8 0, .int .u8 0, .int .u8 0, .int .u8 0, .int .u8 0, .int .u8 0, .int .u8 0, .int .u8 0, .int .u8 0, .int .u8 0, .int .u8 0, .int .u8 0, .int .u8 0, .int .u8 0, .int .u8 0, .int .u8 0, .int .u8 0, .int .u8 0, .int .u8 0, .int .u8 0, .int .u8 0, .int .u8 0] 56) := ⟨_, rfl⟩
  have HW := hid hW
  have HA : Hid (Blk W w.heap.size 56 (hc 0 (zb 16) (zb 8) 0).toArray) := by rw [hW]; exact Blk.new w _ _
  have HBW : Hid (Below w.heap.size w W) := by rw [hW]; exact ext_alloc w _
  clear hW
  have hsp' : 55 ≤ s.length ∧ byteAt s 2 = 45 ∧ byteAt s 35 = 45 ∧ byteAt s 52 = 45 := by unfold splitOk at hsp; exact of_decide_eq_true hsp
  obtain ⟨k0, h1, h2, h3⟩ := hsp'
  have q0 : ¬ ((s.length : Int) < 55) := by omega
  have HQ0 := hid (show decide ((s.length : Int) < 55) = false from decide_eq_false q0)
  have q2 : (2 : Int) < (s.length : Int) := by omega
  have q35 : (35 : Int) < (s.length : Int) := by omega
  have q52 : (52 : Int) < (s.length : Int) := by omega
  have q55 : (55 : Int) ≤ (s.length : Int) := by omega
  have q22 : (2 : Int) ≤ (s.length : Int) := by omega
  have q35' : (35 : Int) ≤ (s.length : Int) := by omega
  have q52' : (52 : Int) ≤ (s.length : Int) := by omega
  have b1 : (byteAt s 2 != 45) = false := by simpa using h1
  have b2 : (byteAt s 35 != 45) = false := by simpa using h2
  have b3 : (byteAt s 52 != 45) = false := by simpa using h3
  clear h1 h2 h3
  have lV : (pV s).length = 2 := by unfold pV; simp; omega
  have lF : (pF s).length = 2 := by unfold pF; simp; omega
  have hdd : digB (pV s) = true ∧ digB (pF s) = true := by rw [digB_app] at hd; simpa using hd
  have HD := hid (show digB (s.take 2 ++ (s.drop 53).take 2) = true from hd)
  obtain ⟨t1, t2⟩ := two_val lV hdd.1
  have HR := hid (show hdrOut (readH s) = .tuple #[Hv 0 (zb 16) (zb 8) 0, .int .i64 15] by
    rw [← hdrOut_bad]; unfold readH; rw [if_pos hsp, (two_ok lV).1, (two_ok lF).1, if_pos hdd, if_pos hv])
  by_cases hff : pV s = [102, 102]
  · have qf : (s.take 2 == [102, 102]) = true := by rw [show s.take 2 = pV s from rfl, hff]; rfl
    clear hff t1 t2 hv hdd hsp hd lV lF
    go_enter Tryz.func28, Tryz.ntmps28
    go_wp2_with fail
    rw [← HW.out]
    refine region_steady (fun u => Below W.heap.size W u) (by kernel_rfl) (by kernel_rfl) (ext_drew _) ?_
    have qd0 := HQ0.out
    repeat (first
      | (refine steady_off (by rfl) ?_; try simp only [Act.put, List.setIfInBounds_toArray, List.set_cons_zero, List.set_cons_succ])
      | (refine steady_pure (v := ?_) (by rfl) ?_ ?_; rotate_left; (focus (intro u; go_simp; with_reducible rfl)); try simp only [Act.put, List.setIfInBounds_toArray, List.set_cons_zero, List.set_cons_succ]))
    (refine steady_add _ _ _ _ rfl (by rfl) (by rfl) ?_ (by rfl) ?_; (focus (simp only [List.length_take, List.length_drop]; omega)); try simp only [Act.put, List.setIfInBounds_toArray, List.set_cons_zero, List.set_cons_succ])
    refine steady_call (fun u hu => bel_call hu (HD.out ▸ rdigits_bel _ u (by simp only [List.length_append, List.length_take, List.length_drop]; omega))) (by rfl) (fun u => by go_simp) ?_
    try simp only [Act.put, List.setIfInBounds_toArray, List.set_cons_zero, List.set_cons_succ]
    repeat (first
      | (refine steady_off (by rfl) ?_; try simp only [Act.put, List.setIfInBounds_toArray, List.set_cons_zero, List.set_cons_succ])
      | (refine steady_pure (v := ?_) (by rfl) ?_ ?_; rotate_left; (focus (intro u; go_simp; with_reducible rfl)); try simp only [Act.put, List.setIfInBounds_toArray, List.set_cons_zero, List.set_cons_succ]))
    refine steady_nil (fun u1 hu1 => ?_)
    clear qd0
    have HA1 := hid (HA.out.below hu1 HA.out.lt)
    have HB1 := hid (HBW.out.trans (hu1.mono HBW.out.size))
    clear hu1 HD HA HBW
    go_wp2_with (first
      | (refine wpList_build_to rfl 56 #[] rfl [] _ rfl built_rzero ?_; change wpList _ _ _ _ (Act.put _ _ (Hv 0 (zb 16) (zb 8) 0)) _)
      | (refine wpList_store_hv rfl 56 (.tmp 2) (.tmp 55) rfl w.heap.size _ 0 0 0 0 (zb 16) (zb 8) (zb 16) (zb 8) rfl rfl HA1.out info_rhdr (zb_length _) (zb_length _) (zb_length _) (zb_length _) ?_; intro w9 hw9 hA9; have HA9 := hid hA9; have HW9 := hid hw9; clear hw9 hA9))
    exact bodyPost_ret (results_hv2 rfl _ _ _ _ _ 0 0 (zb 16) (zb 8) rfl HA9.out Tryz.underlying56 rfl info_rhdr (zb_length _) (zb_length _)) rfl ⟨by rw [HR.out]; rfl, by rw [HW9.out]; exact setRow_below HB1.out (Nat.le_refl _) _⟩
  have qf : (s.take 2 == [102, 102]) = false := beq_eq_false_iff_ne.2 hff
  have hlen : 55 < s.length := by
    rcases hv with h | h | h
    · exact absurd (t1.1 h) hff
    · exact h.2
    · exact h.1
  have ql : (55 : Int) < (s.length : Int) := by omega
  by_cases h00 : pV s = [48, 48]
  · have qz : (s.take 2 == [48, 48]) = true := by rw [show s.take 2 = pV s from rfl, h00]; rfl
    clear hff h00 t1 t2 hv hdd hsp hd lV lF hlen
    go_enter Tryz.func28, Tryz.ntmps28
    go_wp2_with fail
    rw [← HW.out]
    refine region_steady (fun u => Below W.heap.size W u) (by kernel_rfl) (by kernel_rfl) (ext_drew _) ?_
    have qd0 := HQ0.out
    repeat (first
      | (refine steady_off (by rfl) ?_; try simp only [Act.put, List.setIfInBounds_toArray, List.set_cons_zero, List.set_cons_succ])
      | (refine steady_pure (v := ?_) (by rfl) ?_ ?_; rotate_left; (focus (intro u; go_simp; with_reducible rfl)); try simp only [Act.put, List.setIfInBounds_toArray, List.set_cons_zero, List.set_cons_succ]))
    (refine steady_add _ _ _ _ rfl (by rfl) (by rfl) ?_ (by rfl) ?_; (focus (simp only [List.length_take, List.length_drop]; omega)); try simp only [Act.put, List.setIfInBounds_toArray, List.set_cons_zero, List.set_cons_succ])
    refine steady_call (fun u hu => bel_call hu (HD.out ▸ rdigits_bel _ u (by simp only [List.length_append, List.length_take, List.length_drop]; omega))) (by rfl) (fun u => by go_simp) ?_
    try simp only [Act.put, List.setIfInBounds_toArray, List.set_cons_zero, List.set_cons_succ]
    repeat (first
      | (refine steady_off (by rfl) ?_; try simp only [Act.put, List.setIfInBounds_toArray, List.set_cons_zero, List.set_cons_succ])
      | (refine steady_pure (v := ?_) (by rfl) ?_ ?_; rotate_left; (focus (intro u; go_simp; with_reducible rfl)); try simp only [Act.put, List.setIfInBounds_toArray, List.set_cons_zero, List.set_cons_succ]))
    refine steady_nil (fun u1 hu1 => ?_)
    clear qd0
    have HA1 := hid (HA.out.below hu1 HA.out.lt)
    have HB1 := hid (HBW.out.trans (hu1.mono HBW.out.size))
    clear hu1 HD HA HBW
    go_wp2_with (first
      | (refine wpList_build_to rfl 56 #[] rfl [] _ rfl built_rzero ?_; change wpList _ _ _ _ (Act.put _ _ (Hv 0 (zb 16) (zb 8) 0)) _)
      | (refine wpList_store_hv rfl 56 (.tmp 2) (.tmp 55) rfl w.heap.size _ 0 0 0 0 (zb 16) (zb 8) (zb 16) (zb 8) rfl rfl HA1.out info_rhdr (zb_length _) (zb_length _) (zb_length _) (zb_length _) ?_; intro w9 hw9 hA9; have HA9 := hid hA9; have HW9 := hid hw9; clear hw9 hA9))
    exact bodyPost_ret (results_hv2 rfl _ _ _ _ _ 0 0 (zb 16) (zb 8) rfl HA9.out Tryz.underlying56 rfl info_rhdr (zb_length _) (zb_length _)) rfl ⟨by rw [HR.out]; rfl, by rw [HW9.out]; exact setRow_below HB1.out (Nat.le_refl _) _⟩
  have qz : (s.take 2 == [48, 48]) = false := beq_eq_false_iff_ne.2 h00
  have qd : (byteAt s 55 != 45) = true := by
    rcases hv with h | h | h
    · exact absurd (t1.1 h) hff
    · exact absurd (t2.1 h.1) h00
    · simpa using h.2
  clear hff h00 t1 t2 hv hdd hsp hd lV lF hlen
  go_enter Tryz.func28, Tryz.ntmps28
  go_wp2_with fail
  rw [← HW.out]
  refine region_steady (fun u => Below W.heap.size W u) (by kernel_rfl) (by kernel_rfl) (ext_drew _) ?_
  have qd0 := HQ0.out
  repeat (first
    | (refine steady_off (by rfl) ?_; try simp only [Act.put, List.setIfInBounds_toArray, List.set_cons_zero, List.set_cons_succ])
    | (refine steady_pure (v := ?_) (by rfl) ?_ ?_; rotate_left; (focus (intro u; go_simp; with_reducible rfl)); try simp only [Act.put, List.setIfInBounds_toArray, List.set_cons_zero, List.set_cons_succ]))
  (refine steady_add _ _ _ _ rfl (by rfl) (by rfl) ?_ (by rfl) ?_; (focus (simp only [List.length_take, List.length_drop]; omega)); try simp only [Act.put, List.setIfInBounds_toArray, List.set_cons_zero, List.set_cons_succ])
  refine steady_call (fun u hu => bel_call hu (HD.out ▸ rdigits_bel _ u (by simp only [List.length_append, List.length_take, List.length_drop]; omega))) (by rfl) (fun u => by go_simp) ?_
  try simp only [Act.put, List.setIfInBounds_toArray, List.set_cons_zero, List.set_cons_succ]
  repeat (first
    | (refine steady_off (by rfl) ?_; try simp only [Act.put, List.setIfInBounds_toArray, List.set_cons_zero, List.set_cons_succ])
    | (refine steady_pure (v := ?_) (by rfl) ?_ ?_; rotate_left; (focus (intro u; go_simp; with_reducible rfl)); try simp only [Act.put, List.setIfInBounds_toArray, List.set_cons_zero, List.set_cons_succ]))
  refine steady_nil (fun u1 hu1 => ?_)
  clear qd0
  have HA1 := hid (HA.out.below hu1 HA.out.lt)
  have HB1 := hid (HBW.out.trans (hu1.mono HBW.out.size))
  clear hu1 HD HA HBW
  go_wp2_with (first
    | (refine wpList_build_to rfl 56 #[] rfl [] _ rfl built_rzero ?_; change wpList _ _ _ _ (Act.put _ _ (Hv 0 (zb 16) (zb 8) 0)) _)
    | (refine wpList_store_hv rfl 56 (.tmp 2) (.tmp 55) rfl w.heap.size _ 0 0 0 0 (zb 16) (zb 8) (zb 16) (zb 8) rfl rfl HA1.out info_rhdr (zb_length _) (zb_length _) (zb_length _) (zb_length _) ?_; intro w9 hw9 hA9; have HA9 := hid hA9; have HW9 := hid hw9; clear hw9 hA9))
  exact bodyPost_ret (results_hv2 rfl _ _ _ _ _ 0 0 (zb 16) (zb 8) rfl HA9.out Tryz.underlying56 rfl info_rhdr (zb_length _) (zb_length _)) rfl ⟨by rw [HR.out]; rfl, by rw [HW9.out]; exact setRow_below HB1.out (Nat.le_refl _) _⟩
end Go.Proofs.YtgfdmdikiickpaaGreatDoor
