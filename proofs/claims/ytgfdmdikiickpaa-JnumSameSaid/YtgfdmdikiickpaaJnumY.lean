/-
  Walk of package jnum: Whole.
-/
import Derived.Test.YtgfdmdikiickpaaJnumX
import Derived.Test.YtgfdmdikiickpaaJnumP
import Derived.Test.YtgfdmdikiickpaaPJnumY
import Derived.Test.YtgfdmdikiickpaaDeci
import Derived.Test.YtgfdmdikiickpaaCurB
namespace Go.Proofs.Ytgfdmdikiickpaa
open Go.RowKit

theorem start_ahead (s : List UInt8) : (Cu.start s).ahead = s := by
  show (s.take s.length).drop 0 = s
  rw [List.take_length, List.drop_zero]
theorem fin_ok {s : List UInt8} {c : Cu} (h : RdF numR (Cu.start s) c) : (c.fin != 0) = !numOk s := by
  have h0 := (h.good rfl)
  rw [start_ahead] at h0
  obtain ⟨h1, h2⟩ := h0
  obtain ⟨n1, n2⟩ := num_parts s
  rw [n1] at h1 h2
  unfold Cu.fin
  by_cases hc : pC3 s = 0
  · have e := h2 hc
    rw [n2 hc] at e
    have hl := (pE3_le s).2
    have hf := h.fit.le1
    rw [e]
    by_cases he : pE3 s = s.length
    · have hk : numOk s = true := decide_eq_true ⟨hc, he⟩
      rw [hk, if_neg (by simp [Cu.start]), if_neg (by simp [Cu.start]; omega)]; rfl
    · have hk : numOk s = false := decide_eq_false (fun q => he q.2)
      rw [e] at hf
      simp [Cu.start] at hf
      rw [hk, if_neg (by simp [Cu.start]), if_pos (by simp [Cu.start]; omega)]; rfl
  · have hk : numOk s = false := decide_eq_false (fun q => hc q.1)
    rw [hk, h1, if_pos hc]
    simpa using hc
theorem num_bd {s : List UInt8} (hs : s.length ≤ 1000000) (hok : numOk s = true) : - capF ≤ powV (pPower s) ∧ powV (pPower s) ≤ capF ∧ (pWhole s).length + (pBehind s).length ≤ 1000000 := by
  obtain ⟨de, dx, hsh, d1, d2, x1, x2⟩ := num_shape hok
  have hp : Digs (unS (pPower s)) := by
    cases hx : pExp s with
    | true => obtain ⟨_, _, _, _, h⟩ := x1 hx; exact h
    | false => rw [(x2 hx).2]; exact Digs.nil
  have := powV_bd hp
  have hl := congrArg List.length hsh
  rw [List.length_drop, List.length_append, List.length_append] at hl
  refine ⟨this.1, this.2, ?_⟩
  cases hd : pDot s with
  | true => rw [d1 hd] at hl; simp at hl; omega
  | false => rw [(d2 hd).2]; simp; omega
def lenOf : Value → Nat
  | .string b => b.size
  | _ => 0
theorem lenOf_Sv (l : List UInt8) : lenOf (Sv l) = l.length := by simp [lenOf, Sv, ByteArray.size]
structure LJ (w : World) (g : Nat) (M : Bool) (WH BE D : List UInt8) (N : Int) (v : Value) (wr : World) (k : Nat) : Prop where
  le : k ≤ zerosN D
  pay : k = 0 ∨ N + k ≤ 0
  v : v = Sv (D.take (D.length - k))
  blk : Blk wr g 44 (Qv M WH BE (N + k))
  bel : Below w.heap.size w wr
def jOut (s : List UInt8) : Value := .tuple #[.int .i64 (wholeJ s).1, .int .i64 (wholeJ s).2]
theorem below_upd {B g : Nat} {a u : World} (h : Below B a u) (hg : B ≤ g) (o : Nat) (v : Value) : Below B a (u.setCell ⟨g, o, none⟩ v) := by
  have hg' : B ≤ (⟨g, o, none⟩ : Addr).block := hg
  with_reducible exact Below.setCell h hg' v
set_option maxRecDepth 100000 in
set_option maxHeartbeats 8000000 in
theorem jwhole_any (s : List UInt8) (w : World) (hs : s.length ≤ 1000000) :
    Calls Try.prog 7 #[Sv s] w fun e w' => e = .returned (jOut s) ∧ Below w.heap.size w w' := by
  go_enter Try.func7, Try.ntmps7
  go_wp2_with fail
  refine (new_any s _ (by omega)).mono ?_; rintro e w1 ⟨bc, rfl, hbc, hcur, hb1⟩
  have HS : Hid (Sc w1 (w1.alloc (.cells #[ptr bc, .slice none 0 0] 42)) w1.heap.size bc 0 (Cu.start s)) :=
    hid ⟨⟨_, [], Blk.new _ _ _, Own.nil _ _, by simp, fun _ => by simp [seg, Cu.start]⟩, hcur.alloc _, only_alloc ⟨rfl, rfl, rfl, Nat.le_refl _, fun _ _ _ => rfl⟩ _, Nat.le_refl _, Ne.symm (Nat.ne_of_lt hcur.lt), Nat.le_refl _⟩
  have HB1 := hid hb1
  clear hcur hb1
  have hfit : (Cu.start s).fit := ⟨Nat.zero_le _, Nat.le_refl _, by show s.length ≤ _; omega⟩
  go_wp2_with fail
  refine (past_any HS.out hfit hs).mono ?_; rintro e w2 ⟨c', rfl, hr, hS1⟩
  have HBL := hid (below_only HB1.out hS1.gr HB1.out.size hbc)
  have HFIN := hid (fin_ok hr)
  have HR := hid hr
  have HCU := hid hS1.cur
  clear hS1 hr HS HB1
  go_wp2_with fail
  refine (end_any bc c' _ HCU.out HR.out.fit).mono ?_; rintro e w3 ⟨rfl, n, rfl⟩
  have HBL3 := hid (below_drewN HBL.out n)
  generalize w2.drewN n = w3 at HBL3
  clear HBL HCU
  cases hok : numOk s with
  | false =>
    have q : (c'.fin != 0) = true := by rw [HFIN.out, hok]; rfl
    have HO := hid (show wholeJ s = (0, 3) by unfold wholeJ; rw [hok]; rfl)
    clear HFIN HR hok
    go_wp2_with fail
    exact bodyPost_ret (v := .tuple #[.int .i64 0, .int .i64 3]) (by simp only [results, Try.results7]; go_simp) rfl ⟨by unfold jOut; rw [HO.out], HBL3.out⟩
  | true =>
    have q : (c'.fin != 0) = false := by rw [HFIN.out, hok]; rfl
    obtain ⟨v0, v1, lb⟩ := num_bd hs hok
    have hcapF : capF = 1099511627776 := rfl
    obtain ⟨D, hD⟩ : ∃ D, numD s = D := ⟨_, rfl⟩
    obtain ⟨N, hN⟩ : ∃ N, numN s = N := ⟨_, rfl⟩
    obtain ⟨M, hM⟩ : ∃ M, decide (pN0 s = 1) = M := ⟨_, rfl⟩
    have hJ : wholeJ s = (if D = [] then (0, 0) else if N < - (zerosN D : Int) then (0, 7) else if 20 < (D.length : Int) + N then (0, 4) else (intVal (numT M D N), intCode (numT M D N))) := by
      unfold wholeJ; rw [if_pos hok, hD, hN, hM]
    have hDd := digs_numD s
    rw [hD] at hDd
    unfold numD at hD
    unfold numN at hN
    have hD0 : D ≠ [] → byteAt D 0 ≠ 48 := fun h => by rw [← hD] at h ⊢; exact dropZ_head _ h
    have hDl1 : D.length ≤ 1000000 := by
      have := dropZ_len (pWhole s ++ pBehind s)
      rw [hD, List.length_append] at this
      omega
    have hsp := fun u : World => split_any s u hs hok
    rw [hM] at hsp
    obtain ⟨WH, hWH⟩ : ∃ W, pWhole s = W := ⟨_, rfl⟩
    obtain ⟨BE, hBE⟩ : ∃ W, pBehind s = W := ⟨_, rfl⟩
    obtain ⟨V, hV⟩ : ∃ W, powV (pPower s) = W := ⟨_, rfl⟩
    rw [hWH] at hD hsp lb
    rw [hBE] at hD hN lb hsp
    rw [hV] at hN hsp v0 v1
    have HJ := hid hJ
    have HD := hid hD
    have HDD := hid hDd
    have HD0 := hid hD0
    have HSP := hid hsp
    clear HFIN HR hJ hD hDd hD0 hsp hWH hBE hV hM hok
    go_wp2_with fail
    refine (HSP.out _).mono ?_; rintro e w4 ⟨rfl, hb4⟩
    have HBL4 := hid (HBL3.out.trans (hb4.mono HBL3.out.size))
    clear hb4 HBL3 HSP
    unfold Qv
    go_upto_region 7 with fail
    go_cut [6, 7] (fun v6 v7 wx => v6 = .pointer (some ⟨w4.heap.size, 0, none⟩) ∧ v7 = Sv D ∧ Blk wx w4.heap.size 44 (Qv M WH BE V) ∧ Below w.heap.size w wx)
    case first =>
      have hl1 : ¬ (9223372036854775807 < WH.length + BE.length) := by omega
      go_wp2_with fail
      refine (trim_any (WH ++ BE) _ (by rw [List.length_append]; omega)).mono ?_; rintro e w5 ⟨rfl, rfl⟩
      rw [HD.out]
      go_wp2_with fail
      go_meet
      refine ⟨rfl, rfl, ?_, ?_⟩
      · exact Blk.new w4 _ _
      · exact HBL4.out.alloc HBL4.out.size _
    case rest =>
      obtain ⟨rfl, rfl, hP, hB⟩ := hcut
      have hg : w.heap.size ≤ w4.heap.size := HBL4.out.size
      clear HBL4
      generalize w4.heap.size = g at hP hg
      obtain ⟨p1, p2, p3⟩ : wc.cell? ⟨g, 1, none⟩ = some (Sv WH) ∧ wc.cell? ⟨g, 2, none⟩ = some (Sv BE) ∧ wc.cell? ⟨g, 3, none⟩ = some (.int .i64 V) := ⟨hP.cell 1, hP.cell 2, hP.cell 3⟩
      have f3 := hP.frozen 3
      have HP := hid (show Blk (wc.setCell ⟨g, 3, none⟩ (.int .i64 N)) g 44 (Qv M WH BE N) from hP.set_ 3 _)
      have HBL := hid hB
      clear hP hB HD
      by_cases hd : D = []
      · subst hd
        have HJ2 := hid (show wholeJ s = (0, 0) by rw [HJ.out]; rfl)
        clear HJ
        go_wp2_with fail
        exact bodyPost_ret (v := .tuple #[.int .i64 0, .int .i64 0]) (by simp only [results, Try.results7]; go_simp) rfl ⟨by unfold jOut; rw [HJ2.out], HBL.out⟩
      · have q : (D == []) = false := by simpa using hd
        have HJ2 := hid (show wholeJ s = (if N < - (zerosN D : Int) then (0, 7) else if 20 < (D.length : Int) + N then (0, 4) else (intVal (numT M D N), intCode (numT M D N))) by rw [HJ.out, if_neg hd])
        have hNV : V - (BE.length : Int) = N := hN
        have hNw : IntKind.i64.wrap (V - (BE.length : Int)) = N := by rw [IntWalk.i64_in _ (by omega)]; exact hN
        have hn1 : N ≤ capF := by omega
        have hn0 : -(capF + 1000000) ≤ N := by omega
        clear HJ hN
        have HBL2 := hid (below_upd HBL.out hg 3 (.int .i64 N))
        have hz := zerosN_lt hd (HD0.out hd)
        have hLJ : LJ w g M WH BE D N (Sv D) (wc.setCell ⟨g, 3, none⟩ (.int .i64 N)) 0 := ⟨Nat.zero_le _, .inl rfl, by simp, by simpa using HP.out, HBL2.out⟩
        clear HP HBL
        go_upto_block 0 with fail
        generalize wc.setCell ⟨g, 3, none⟩ (.int .i64 N) = W1 at hLJ HBL2
        clear p1 p2 p3 f3 HBL2
        go_cut [7] (fun v wx => ∃ dd P, v = Sv dd ∧ Hid (Fin D N dd P) ∧ Blk wx g 44 (Qv M WH BE P) ∧ Below w.heap.size w wx)
        case first =>
          go_wp2_with fail
          go_loopw [7] (fun v wr => ∃ k, LJ w g M WH BE D N v wr k) (fun v _ => lenOf v)
          case atStart => exact ⟨0, hLJ⟩
          case round =>
            clear hLJ
            obtain ⟨k, hk⟩ := hrel
            obtain rfl := hk.v
            have p3 : wr.cell? ⟨g, 3, none⟩ = some (.int .i64 (N + k)) := hk.blk.cell 3
            have f3 := hk.blk.frozen 3
            have kz := hk.le
            have HK := hid hk
            clear hk
            obtain ⟨j, hj⟩ : ∃ j, D.length - k = j + 1 := ⟨D.length - k - 1, by omega⟩
            have hTl : (D.take (D.length - k)).length = j + 1 := by rw [List.length_take]; omega
            have hTb : byteAt (D.take (D.length - k)) j = byteAt D (D.length - 1 - k) := by
              rw [byteAt_take _ _ _ (by omega)]; congr 1; omega
            have hTt : (D.take (D.length - k)).take j = D.take (D.length - (k + 1)) := by rw [List.take_take]; congr 1; omega
            obtain ⟨T, hT⟩ : ∃ T, D.take (D.length - k) = T := ⟨_, rfl⟩
            have HT := hid hT
            rw [hT] at hTl hTb hTt ⊢
            clear hT
            have HTT := hid hTt
            clear hTt
            by_cases hneg : N + k < 0
            · by_cases hkz : k < zerosN D
              · have q48 : (byteAt T j == 48) = true := by rw [hTb, zerosN_at hkz]; rfl
                have hw1 : IntKind.i64.wrap (N + (k : Int) + 1) = N + ((k + 1 : Nat) : Int) := by rw [IntWalk.i64_in _ (by omega)]; omega
                clear hTb
                go_wp2_with fail
                go_region
                go_wp2_with fail
                go_roundw
                case rel => exact ⟨k + 1, by omega, .inr (by omega), by rw [HTT.out], (HK.out.blk.set_ 3 (.int .i64 (N + ((k + 1 : Nat) : Int)))).drew, (below_upd HK.out.bel hg 3 _).drew⟩
                case measure => rw [lenOf_Sv, lenOf_Sv, List.length_take, hTl]; omega
              · have q48 : (byteAt T j == 48) = false := by
                  rw [hTb, show k = zerosN D by omega, beq_eq_false_iff_ne]; exact zerosN_end hz
                clear hTb
                go_wp2_with fail
                go_meet
                exact ⟨_, _, rfl, hid (by rw [← HT.out]; exact Fin.stop hd (HD0.out hd) hn1 hn0 kz HK.out.pay (.inr (by omega))), HK.out.blk, HK.out.bel⟩
            · clear hTb
              go_wp2_with fail
              go_meet
              exact ⟨_, _, rfl, hid (by rw [← HT.out]; exact Fin.stop hd (HD0.out hd) hn1 hn0 kz HK.out.pay (.inl (by omega))), HK.out.blk, HK.out.bel⟩
        case rest =>
          obtain ⟨T, P, rfl, HF, hP, hB⟩ := hcut
          obtain ⟨p0, p3⟩ : wc.cell? ⟨g, 0, none⟩ = some (.bool M) ∧ wc.cell? ⟨g, 3, none⟩ = some (.int .i64 P) := ⟨hP.cell 0, hP.cell 3⟩
          have f3 := hP.frozen 3
          have HP := hid hP
          have HBL := hid hB
          clear hP hB hLJ
          obtain ⟨pc, pl, pm⟩ := HF.out.le
          have pT := HF.out.ne
          by_cases hneg : P < 0
          · have HO := hid (show wholeJ s = (0, 7) by rw [HJ2.out, if_pos (HF.out.no hneg)])
            clear HJ2
            go_wp2_with fail
            exact bodyPost_ret (v := .tuple #[.int .i64 0, .int .i64 7]) (by simp only [results, Try.results7]; go_simp) rfl ⟨by unfold jOut; rw [HO.out], HBL.out⟩
          · obtain ⟨y1, y2⟩ := HF.out.yes hneg
            have HTX := hid (HF.out.txt hneg)
            have hm : min P 1099511627776 = P := by omega
            have hw1 : IntKind.i64.wrap ((T.length : Int) + P) = (T.length : Int) + P := IntWalk.i64_in _ (by omega)
            by_cases hbig : 20 < (D.length : Int) + N
            · have HO := hid (show wholeJ s = (0, 4) by rw [HJ2.out, if_neg y1, if_pos hbig])
              clear HJ2
              have hbig2 : 20 < (T.length : Int) + P := by omega
              clear HF
              go_wp2_with fail
              exact bodyPost_ret (v := .tuple #[.int .i64 0, .int .i64 4]) (by simp only [results, Try.results7]; go_simp) rfl ⟨by unfold jOut; rw [HO.out], HBL.out⟩
            · have HO := hid (show wholeJ s = (intVal (numT M D N), intCode (numT M D N)) by rw [HJ2.out, if_neg y1, if_neg hbig])
              clear HJ2
              have hbig2 : ¬ 20 < (T.length : Int) + P := by omega
              clear HF
              obtain ⟨X, hX⟩ : ∃ X, (if N < 0 then D.take ((D.length : Int) + N).toNat else D ++ List.replicate N.toNat 48) = X := ⟨_, rfl⟩
              have HO2 := hid (show wholeJ s = (intVal ((if M = true then [45] else []) ++ X), intCode ((if M = true then [45] else []) ++ X)) by rw [HO.out]; unfold numT; rw [hX])
              have HTX2 := hid (show T ++ List.replicate P.toNat 48 = X by rw [HTX.out, hX])
              have hXl : X.length ≤ 20 := by rw [← HTX2.out, List.length_append, List.length_replicate]; omega
              clear hX HO HTX
              go_upto_block 2 with fail
              clear p3 f3
              go_cut [7] (fun v wx => v = Sv X ∧ wx.cell? ⟨g, 0, none⟩ = some (.bool M) ∧ Below w.heap.size w wx)
              case first =>
                go_wp2_with fail
                go_loopw [7] (fun v wr => ∃ j : Nat, (j : Int) ≤ P ∧ v = Sv (T ++ List.replicate j 48) ∧ Blk wr g 44 (Qv M WH BE (P - j)) ∧ Below w.heap.size w wr) (fun v _ => 21 - lenOf v)
                case atStart => exact ⟨0, by omega, by simp, by simpa using HP.out, HBL.out⟩
                case round =>
                  clear p0
                  obtain ⟨j, hj, rfl, hP, hB⟩ := hrel
                  have p0 : wr.cell? ⟨g, 0, none⟩ = some (.bool M) := hP.cell 0
                  have p3 : wr.cell? ⟨g, 3, none⟩ = some (.int .i64 (P - j)) := hP.cell 3
                  have f3 := hP.frozen 3
                  have HP1 := hid hP
                  have HB1 := hid hB
                  clear hP hB
                  have hUl : (T ++ List.replicate j 48).length = T.length + j := by rw [List.length_append, List.length_replicate]
                  have HU1 := hid (rep_snoc T j)
                  have HUX : Hid ((j : Int) = P → T ++ List.replicate j 48 = X) := hid fun e => by rw [← HTX2.out, ← e]; rfl
                  obtain ⟨U, hU⟩ : ∃ U, T ++ List.replicate j 48 = U := ⟨_, rfl⟩
                  rw [hU] at hUl HU1 HUX ⊢
                  clear hU
                  by_cases hlt : (j : Int) < P
                  · have hw2 : IntKind.i64.wrap (P - (j : Int) - 1) = P - ((j + 1 : Nat) : Int) := by rw [IntWalk.i64_in _ (by omega)]; omega
                    have hl1 : ¬ (9223372036854775807 < U.length + 1) := by omega
                    go_wp2_with fail
                    go_roundw
                    case rel => exact ⟨j + 1, by omega, by rw [← HU1.out], HP1.out.set_ 3 (.int .i64 (P - ((j + 1 : Nat) : Int))), below_upd HB1.out hg 3 _⟩
                    case measure => simp only [string_Sv, lenOf_Sv, List.length_append, List.length_singleton] <;> omega
                  · have hjP : (j : Int) = P := by omega
                    have HX1 := hid (HUX.out hjP)
                    go_wp2_with fail
                    go_meet
                    exact ⟨by rw [HX1.out], p0, HB1.out⟩
              case rest =>
                clear p0
                obtain ⟨rfl, p0, hB⟩ := hcut
                have HB1 := hid hB
                clear hB HP HBL
                cases M with
                | true =>
                  have hl1 : ¬ (9223372036854775807 < 1 + X.length) := by omega
                  go_wp2_with fail
                  refine (readI_any (45 :: X) _ (by rw [List.length_cons]; omega)).mono ?_; rintro e w5 ⟨rfl, rfl⟩
                  unfold iOut
                  go_wp2_with fail
                  exact bodyPost_ret (v := .tuple #[.int .i64 (intVal (45 :: X)), .int .i64 (intCode (45 :: X))]) (by simp only [results, Try.results7]; go_simp) rfl ⟨by unfold jOut; rw [HO2.out]; rfl, HB1.out⟩
                | false =>
                  go_wp2_with fail
                  refine (readI_any X _ (by omega)).mono ?_; rintro e w5 ⟨rfl, rfl⟩
                  unfold iOut
                  go_wp2_with fail
                  exact bodyPost_ret (v := .tuple #[.int .i64 (intVal X), .int .i64 (intCode X)]) (by simp only [results, Try.results7]; go_simp) rfl ⟨by unfold jOut; rw [HO2.out]; rfl, HB1.out⟩
end Go.Proofs.Ytgfdmdikiickpaa
