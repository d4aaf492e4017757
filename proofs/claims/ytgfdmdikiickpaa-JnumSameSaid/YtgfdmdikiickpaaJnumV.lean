/-
  Walk of the reference of package jnum: Whole.
-/
import Derived.Test.YtgfdmdikiickpaaJnumZ
import Derived.Test.YtgfdmdikiickpaaDeciRef
import Derived.Deep.QuietTactic
import Derived.BigQuiet
namespace Go.Proofs.Ytgfdmdikiickpaa
open Go.RowKit

theorem rsplit0 (s : List UInt8) (w : World) (hs : s.length ≤ 1000000) :
    Calls Try.prog 22 #[Sv s, .int .i64 0] w fun e w' => e = .returned (.agg (Pv (pWhole s) (pBehind s) (pPower s) (pE3 s) (pC3 s))) ∧ Below w.heap.size w w' := by
  have := jsplit_any s 0 w hs (Nat.zero_le _)
  rw [List.drop_zero, Nat.zero_add] at this
  exact this
theorem rpower_quiet (p : List UInt8) (V : Int) (w : World) (n : Nat) (hs : p.length ≤ 1000000) (hV : rpowV p = V) :
    Calls Try.prog 23 #[Sv p] (w.drewN n) fun e w' => e = .returned (.int .i64 V) ∧ ∃ m, w' = w.drewN m :=
  Calls.quiet_of_same ((rpower_any p (w.drewN n) hs).mono fun _ _ ⟨he, hm⟩ => ⟨by rw [he, hV], hm.symm⟩)
theorem pPower_len (s : List UInt8) : (pPower s).length ≤ s.length := by
  unfold pPower
  split
  · rw [List.length_take, List.length_drop]; omega
  · simp
/-- The text of the whole number, without its sign. -/
def numX (d : List UInt8) (n : Int) : List UInt8 := if n < 0 then d.take ((d.length : Int) + n).toNat else d ++ List.replicate n.toNat 48
theorem numX_len {d : List UInt8} {n : Int} (h : - (d.length : Int) ≤ n) : ((numX d n).length : Int) = d.length + n := by
  unfold numX
  split
  · rw [List.length_take]; omega
  · rw [List.length_append, List.length_replicate]; omega
theorem numX_digs {d : List UInt8} {n : Int} (h : Digs d) : Digs (numX d n) := by
  unfold numX
  split
  · exact h.take _
  · exact digs_app h (digs_rep _)
theorem numX_head {d : List UInt8} {n : Int} (h : 0 < (numX d n).length) (hd : 0 < d.length) : byteAt (numX d n) 0 = byteAt d 0 := by
  unfold numX at h ⊢
  split
  · rename_i hn
    rw [if_pos hn, List.length_take] at h
    exact byteAt_take _ _ _ (by omega)
  · exact byteAt_app_left _ _ _ hd
theorem numT_X (m : Bool) (d : List UInt8) (n : Int) : numT m d n = (if m = true then [45] else []) ++ numX d n := rfl
theorem rtake_txt (m : Bool) (t : List UInt8) (n : Int) (h : n < 0) : numT m t n = (if m = true then [45] else []) ++ t.take ((t.length : Int) + n).toNat := by unfold numT; rw [if_pos h]
theorem rapp_txt (m : Bool) (t : List UInt8) (n : Int) (h : ¬ n < 0) : numT m t n = (if m = true then [45] else []) ++ (t ++ List.replicate n.toNat 48) := by unfold numT; rw [if_neg h]
set_option maxRecDepth 100000 in
set_option maxHeartbeats 8000000 in
theorem rwhole_any (s : List UInt8) (w : World) (hs : s.length ≤ 1000000) :
    Calls Try.prog 8 #[Sv s] w fun e w' => e = .returned (jOut s) ∧ Below w.heap.size w w' := by
  have hwh := digs_whole s
  have hbh := digs_behind s
  have hpl := pPower_len s
  obtain ⟨OK, hOK⟩ : ∃ b, numOk s = b := ⟨_, rfl⟩
  have hJ : wholeJ s = (if OK = true then (if numD s = [] then (0, 0) else if numN s < - (zerosN (numD s) : Int) then (0, 7) else if 20 < ((numD s).length : Int) + numN s then (0, 4) else (intVal (numT (decide (pN0 s = 1)) (numD s) (numN s)), intCode (numT (decide (pN0 s = 1)) (numD s) (numN s)))) else (0, 3)) := by
    unfold wholeJ; rw [hOK]
  have hokE : OK = decide (pC3 s = 0 ∧ pE3 s = s.length) := hOK.symm
  have hbd : OK = true → - capF ≤ powV (pPower s) ∧ powV (pPower s) ≤ capF ∧ (pWhole s).length + (pBehind s).length ≤ 1000000 := fun h => num_bd hs (hOK.trans h)
  have hrp : OK = true → rpowV (pPower s) = powV (pPower s) := fun h => by
    obtain ⟨de, dx, hsh, d1, d2, x1, x2⟩ := num_shape (hOK.trans h)
    refine rpowV_eq ?_
    cases hx : pExp s with
    | true => obtain ⟨_, _, _, _, h⟩ := x1 hx; exact h
    | false => rw [(x2 hx).2]; exact Digs.nil
  have hpos : OK = true → 0 < s.length := fun h => numOk_pos (hOK.trans h)
  have hmin : OK = true → (byteAt s 0 == 45) = decide (pN0 s = 1) := fun h => by
    have := hpos h
    cases s with
    | nil => simp at this
    | cons b r =>
      by_cases hb : b = 45
      · subst hb; rfl
      · have h1 : eatN [45] (b :: r) = 0 := by simp [eatN, hb]
        have h2 : decide (pN0 (b :: r) = 1) = false := by simp [pN0, h1]
        rw [h2]
        show (bi b == 45) = false
        rw [beq_eq_false_iff_ne]
        intro e; exact hb (bi_inj e)
  have hE := (pE3_le s).2
  obtain ⟨M, hM⟩ : ∃ M, decide (pN0 s = 1) = M := ⟨_, rfl⟩
  have hsp := fun u : World => rsplit0 s u hs
  have hdd := digs_numD s
  have hd0 : numD s ≠ [] → byteAt (numD s) 0 ≠ 48 := fun h => by unfold numD at h ⊢; exact dropZ_head _ h
  unfold numD numN at hJ
  unfold numD at hdd hd0
  rw [hM] at hJ hmin
  obtain ⟨WH, hWH⟩ : ∃ W, pWhole s = W := ⟨_, rfl⟩
  obtain ⟨BE, hBE⟩ : ∃ W, pBehind s = W := ⟨_, rfl⟩
  obtain ⟨PO, hPO⟩ : ∃ W, pPower s = W := ⟨_, rfl⟩
  obtain ⟨E, hE3⟩ : ∃ W, pE3 s = W := ⟨_, rfl⟩
  obtain ⟨C, hC3⟩ : ∃ W, pC3 s = W := ⟨_, rfl⟩
  rw [hWH, hBE] at hdd hd0
  rw [hWH, hBE, hPO] at hJ hbd
  rw [hWH, hBE, hPO, hE3, hC3] at hsp
  rw [hE3, hC3] at hokE
  rw [hPO] at hrp hpl
  rw [hE3] at hE
  obtain ⟨V, hV⟩ : ∃ V, powV PO = V := ⟨_, rfl⟩
  rw [hV] at hJ hbd hrp
  have HJ := hid hJ
  have HSP := hid hsp
  have HRP := hid hrp
  have HBD := hid hbd
  have HMIN := hid hmin
  have HPOS := hid hpos
  have HDD := hid hdd
  have HD0 := hid hd0
  have HOKE := hid hokE
  have HBW := hid (Below.refl w.heap.size w)
  clear hJ hsp hrp hbd hmin hpos hdd hd0 hokE hWH hBE hPO hE3 hC3 hV hM hOK hwh hbh
  go_enter Try.func8, Try.ntmps8
  go_upto_region 1 with fail
  go_cut [4] (fun v wx => ∃ g, v = .pointer (some ⟨g, 0, none⟩) ∧ Blk wx g 48 (Pv WH BE PO E C) ∧ Below w.heap.size w wx)
  case first =>
    go_wp2_with fail
    refine (HSP.out _).mono ?_; rintro e w1 ⟨rfl, hb1⟩
    unfold Pv
    go_wp2_with fail
    go_meet
    exact ⟨_, rfl, Blk.new w1 _ _, hb1.alloc hb1.size _⟩
  case rest =>
    obtain ⟨g, rfl, hP, hB⟩ := hcut
    obtain ⟨p0, p1, p2, p3, p4⟩ : wc.cell? ⟨g, 0, none⟩ = some (Sv WH) ∧ wc.cell? ⟨g, 1, none⟩ = some (Sv BE) ∧ wc.cell? ⟨g, 2, none⟩ = some (Sv PO) ∧ wc.cell? ⟨g, 3, none⟩ = some (.int .i64 (E : Int)) ∧ wc.cell? ⟨g, 4, none⟩ = some (.int .i64 C) := ⟨hP.cell 0, hP.cell 1, hP.cell 2, hP.cell 3, hP.cell 4⟩
    have HB := hid hB
    clear hP hB HSP HBW
    by_cases hC : C = 0
    · by_cases hEl : E = s.length
      · subst hC hEl
        obtain rfl : OK = true := by rw [HOKE.out]; simp
        obtain ⟨v0, v1, lb⟩ := HBD.out rfl
        have HRP1 := hid (HRP.out rfl)
        have HMIN1 := hid (HMIN.out rfl)
        have hpos := HPOS.out rfl
        have hcapF : capF = 1099511627776 := rfl
        clear HOKE HBD HRP HMIN HPOS hE
        have HJ1 := hid (show wholeJ s = (if dropZ (WH ++ BE) = [] then (0, 0) else if V - (BE.length : Int) < - (zerosN (dropZ (WH ++ BE)) : Int) then (0, 7) else if 20 < ((dropZ (WH ++ BE)).length : Int) + (V - (BE.length : Int)) then (0, 4) else (intVal (numT M (dropZ (WH ++ BE)) (V - (BE.length : Int))), intCode (numT M (dropZ (WH ++ BE)) (V - (BE.length : Int))))) by rw [HJ.out, if_pos rfl])
        have hl1 : ¬ (9223372036854775807 < WH.length + BE.length) := by omega
        have hDl : (dropZ (WH ++ BE)).length ≤ 1000000 := by
          have := dropZ_len (WH ++ BE)
          rw [List.length_append] at this
          omega
        have hLl : (WH ++ BE).length ≤ 1000000 := by rw [List.length_append]; omega
        clear HJ
        go_upto_block 0 with fail
        clear p0 p3 p4
        obtain ⟨L, hL⟩ : ∃ L, WH ++ BE = L := ⟨_, rfl⟩
        rw [hL] at HJ1 HDD HD0 hDl hLl ⊢
        obtain ⟨D, hD⟩ : ∃ D, dropZ L = D := ⟨_, rfl⟩
        have HD := hid hD
        rw [hD] at HJ1 HDD HD0 hDl
        clear hL hD hl1
        go_cut [5] (fun v wx => v = Sv D ∧ wx = wc)
        case first =>
          go_wp2_with fail
          go_loop [5] (fun v => ∃ j : Nat, j ≤ L.length ∧ v = Sv (L.drop j) ∧ Hid (dropZ L = dropZ (L.drop j))) (fun v => lenOf v)
          case atStart => exact ⟨0, by omega, rfl, hid rfl⟩
          case round =>
            obtain ⟨j, hj, rfl, HR⟩ := hrel
            by_cases hlt : j < L.length
            · have hne : (L.drop j == ([] : List UInt8)) = false := by
                rw [List.drop_eq_getElem_cons hlt]; rfl
              have hne2 : (!(L.drop j == ([] : List UInt8))) = true := by rw [hne]; rfl
              have hl : 0 < (L.drop j).length := by rw [List.length_drop]; omega
              have hl1 : (1 : Int) ≤ ((L.drop j).length : Int) := by omega
              by_cases h0 : byteAt L j = 48
              · have q0 : (byteAt L j == 48) = true := by simpa using h0
                have HZ := hid (dropZ_zero L j hlt h0)
                have HM := hid (show (L.drop (j + 1)).length < (L.drop j).length by rw [List.length_drop, List.length_drop]; omega)
                clear h0
                go_wp2_with fail
                go_round
                case rel => exact ⟨j + 1, by omega, rfl, hid (by rw [HR.out, HZ.out])⟩
                case measure => rw [lenOf_Sv, lenOf_Sv]; exact HM.out
              · have q0 : (byteAt L j == 48) = false := by simpa using h0
                have HZ := hid (dropZ_stop L j hlt h0)
                clear h0
                go_wp2_with fail
                go_meet
                exact ⟨by rw [← HD.out, HR.out, HZ.out], rfl⟩
            · have hnil : L.drop j = [] := List.drop_eq_nil_of_le (by omega)
              rw [hnil] at HR
              rw [hnil]
              clear hnil
              go_wp2_with fail
              go_meet
              exact ⟨by rw [← HD.out, HR.out]; rfl, rfl⟩
        case rest =>
          obtain ⟨rfl, rfl⟩ := hcut
          clear HD
          by_cases hd : D = []
          · subst hd
            have HO := hid (show wholeJ s = (0, 0) by rw [HJ1.out]; rfl)
            clear HJ1
            go_wp2_with fail
            exact bodyPost_ret (v := .tuple #[.int .i64 0, .int .i64 0]) (by simp only [results, Try.results8]; go_simp) rfl ⟨by unfold jOut; rw [HO.out], HB.out⟩
          · have q : (D == []) = false := by simpa using hd
            have HJ2 := hid (show wholeJ s = (if V - (BE.length : Int) < - (zerosN D : Int) then (0, 7) else if 20 < (D.length : Int) + (V - (BE.length : Int)) then (0, 4) else (intVal (numT M D (V - (BE.length : Int))), intCode (numT M D (V - (BE.length : Int))))) by rw [HJ1.out, if_neg hd])
            have HD1 := hid (HD0.out hd)
            have HHD := hid hd
            clear HJ1 HD0 hd
            have hw1 : IntKind.i64.wrap (V - (BE.length : Int)) = V - (BE.length : Int) := IntWalk.i64_in _ (by omega)
            go_wp2_with fail
            go_quiet ((go_at_call 23; exact rpower_quiet PO V _ _ (by omega) HRP1.out))
            have HB2 := hid (below_drewN HB.out nq)
            generalize wc.drewN nq = W2 at HB2 ⊢
            have hn1 : V - (BE.length : Int) ≤ capF := by omega
            have hn0 : -(capF + 1000000) ≤ V - (BE.length : Int) := by omega
            obtain ⟨N, hN⟩ : ∃ N, V - (BE.length : Int) = N := ⟨_, rfl⟩
            rw [hN] at HJ2 hn0 hn1 ⊢
            clear hN hw1 HB p1 p2
            have hzl := zerosN_lt HHD.out HD1.out
            go_wp2_with fail
            refine (rzeros_any D _ hDl).mono ?_; rintro e w3 ⟨rfl, rfl⟩
            by_cases hz : N < -(zerosN D : Int)
            · have HO := hid (show wholeJ s = (0, 7) by rw [HJ2.out, if_pos hz])
              clear HJ2
              go_wp2_with fail
              exact bodyPost_ret (v := .tuple #[.int .i64 0, .int .i64 7]) (by simp only [results, Try.results8]; go_simp) rfl ⟨by unfold jOut; rw [HO.out], HB2.out⟩
            · have hw2 : IntKind.i64.wrap ((D.length : Int) + N) = (D.length : Int) + N := IntWalk.i64_in _ (by omega)
              by_cases h30 : 30 < (D.length : Int) + N
              · have HO := hid (show wholeJ s = (0, 4) by rw [HJ2.out, if_neg hz, if_pos (by omega)])
                clear HJ2
                go_wp2_with fail
                exact bodyPost_ret (v := .tuple #[.int .i64 0, .int .i64 4]) (by simp only [results, Try.results8]; go_simp) rfl ⟨by unfold jOut; rw [HO.out], HB2.out⟩
              · obtain ⟨X, hX⟩ : ∃ X, numX D N = X := ⟨_, rfl⟩
                have hXl : (X.length : Int) = D.length + N := by rw [← hX]; exact numX_len (by omega)
                have HO := hid (show wholeJ s = (intVal ((if M = true then [45] else []) ++ X), intCode ((if M = true then [45] else []) ++ X)) by
                  rw [HJ2.out, if_neg hz]
                  by_cases hbig : 20 < (D.length : Int) + N
                  · rw [if_pos hbig]
                    obtain ⟨c1, c2⟩ := big_code (m := M) (t := X) (by rw [← hX]; exact numX_digs HDD.out) (by rw [← hX, numX_head (by rw [hX]; omega) (by omega)]; exact HD1.out) (by omega)
                    rw [c1, c2]
                  · rw [if_neg hbig, numT_X, hX])
                have HX := hid hX
                clear HJ2 hX
                obtain ⟨T, hT⟩ : ∃ T, (if N < 0 then D.take ((D.length : Int) + N).toNat else D) = T := ⟨_, rfl⟩
                have HTX := hid (show T ++ List.replicate N.toNat 48 = X by
                  rw [← HX.out, ← hT]; unfold numX
                  by_cases hn : N < 0
                  · rw [if_pos hn, if_pos hn, show N.toNat = 0 by omega]; simp
                  · rw [if_neg hn, if_neg hn])
                have hTl : (T.length : Int) ≤ D.length := by
                  rw [← hT]; split
                  · rw [List.length_take]; omega
                  · exact Int.le_refl _
                have HT1 : Hid (N < 0 → D.take ((D.length : Int) + N).toNat = T) := hid fun h => by rw [← hT, if_pos h]
                have HT2 : Hid (¬ N < 0 → D = T) := hid fun h => by rw [← hT, if_neg h]
                clear hT HX
                go_upto_if 54 with fail
                go_cut [5] (fun v wx => v = Sv T ∧ wx = W2)
                case first =>
                  by_cases hn : N < 0
                  · have HT := hid (HT1.out hn)
                    have ha : (0 : Int) ≤ (D.length : Int) + N := by omega
                    have hb : (D.length : Int) + N ≤ (D.length : Int) := by omega
                    clear HT1 HT2
                    go_wp2_with fail
                    go_meet
                    exact ⟨by rw [HT.out], rfl⟩
                  · have HT := hid (HT2.out (by omega))
                    clear HT1 HT2
                    go_wp2_with fail
                    go_meet
                    exact ⟨by rw [HT.out], rfl⟩
                case rest =>
                  obtain ⟨rfl, rfl⟩ := hcut
                  clear HT1 HT2
                  go_upto_block 2 with fail
                  go_cut [5] (fun v wx => v = Sv X ∧ wx = wc)
                  case first =>
                    go_wp2_with fail
                    go_loop [5, 7] (fun v i => ∃ j : Nat, j ≤ N.toNat ∧ v = Sv (T ++ List.replicate j 48) ∧ i = .int .i64 (j : Int)) (fun _ i => N.toNat - (intOf i).toNat)
                    case atStart => exact ⟨0, Nat.zero_le _, by simp, rfl⟩
                    case round =>
                      obtain ⟨j, hj, rfl, rfl⟩ := hrel
                      have hUl : (T ++ List.replicate j 48).length = T.length + j := by rw [List.length_append, List.length_replicate]
                      have HU1 := hid (rep_snoc T j)
                      have HUX : Hid (j = N.toNat → T ++ List.replicate j 48 = X) := hid fun e => by rw [← HTX.out, ← e]
                      obtain ⟨U, hU⟩ : ∃ U, T ++ List.replicate j 48 = U := ⟨_, rfl⟩
                      rw [hU] at hUl HU1 HUX ⊢
                      clear hU
                      by_cases hlt : (j : Int) < N
                      · have hl1 : ¬ (9223372036854775807 < U.length + 1) := by omega
                        go_wp2_with fail
                        go_round
                        case rel => exact ⟨j + 1, by omega, by rw [← HU1.out], by go_num⟩
                        case measure => simp [intOf]; omega
                      · have HX1 := hid (HUX.out (by omega))
                        go_wp2_with fail
                        go_meet
                        exact ⟨by rw [HX1.out], rfl⟩
                  case rest =>
                    obtain ⟨rfl, rfl⟩ := hcut
                    cases M with
                    | true =>
                      have q45 := HMIN1.out
                      have hl1 : ¬ (9223372036854775807 < 1 + X.length) := by omega
                      go_wp2_with fail
                      refine (rreadI_any (45 :: X) _ (by rw [List.length_cons]; omega)).mono ?_; rintro e w5 ⟨rfl, rfl⟩
                      unfold iOut
                      go_wp2_with fail
                      exact bodyPost_ret (v := .tuple #[.int .i64 (intVal (45 :: X)), .int .i64 (intCode (45 :: X))]) (by simp only [results, Try.results8]; go_simp) rfl ⟨by unfold jOut; rw [HO.out]; rfl, HB2.out⟩
                    | false =>
                      have q45 := HMIN1.out
                      go_wp2_with fail
                      refine (rreadI_any X _ (by omega)).mono ?_; rintro e w5 ⟨rfl, rfl⟩
                      unfold iOut
                      go_wp2_with fail
                      exact bodyPost_ret (v := .tuple #[.int .i64 (intVal X), .int .i64 (intCode X)]) (by simp only [results, Try.results8]; go_simp) rfl ⟨by unfold jOut; rw [HO.out]; rfl, HB2.out⟩
      · have q0 : (0 != 0) = false := rfl
        have q : ((E : Int) != (s.length : Int)) = true := by simp; omega
        have HO := hid (show wholeJ s = (0, 3) by
          have : OK = false := by rw [HOKE.out]; simp [hEl]
          rw [HJ.out, this]; rfl)
        subst hC
        clear HJ HOKE HBD HRP HMIN HPOS
        go_wp2_with fail
        exact bodyPost_ret (v := .tuple #[.int .i64 0, .int .i64 3]) (by simp only [results, Try.results8]; go_simp) rfl ⟨by unfold jOut; rw [HO.out], HB.out⟩
    · have q : (C != 0) = true := by simpa using hC
      have HO := hid (show wholeJ s = (0, 3) by
        have : OK = false := by rw [HOKE.out]; simp [hC]
        rw [HJ.out, this]; rfl)
      clear HJ HOKE HBD HRP HMIN HPOS hC
      go_wp2_with fail
      exact bodyPost_ret (v := .tuple #[.int .i64 0, .int .i64 3]) (by simp only [results, Try.results8]; go_simp) rfl ⟨by unfold jOut; rw [HO.out], HB.out⟩
end Go.Proofs.Ytgfdmdikiickpaa
