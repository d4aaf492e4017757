/-
  Texts for the laws of this seat, merged: BrefD, BrefE, BrefF.
-/
import Derived.Test.YtgfdmdikiickpaaGreatDoorMF
import Derived.Test.YtgfdmdikiickpaaGreatDoorMH
import Derived.Test.YtgfdmdikiickpaaGreatDoorMK
/-! BrefD -/
namespace Go.Proofs.YtgfdmdikiickpaaGreatDoor
open Go.RowKit

def CutRel (w : World) (s : List UInt8) (v i : Value) (wr : World) : Prop := ∃ (v' : Value) (acc : List (List UInt8)) (cur : List UInt8) (k : Nat), v' = v ∧ i = .int .i64 (k : Int) ∧ k ≤ s.length ∧ acc.length ≤ k ∧ cur.length ≤ k ∧ Hid (OwnS wr w.heap.size v' (acc ++ [cur])) ∧ Hid (cutB 45 s = acc ++ glue cur (cutB 45 (s.drop k))) ∧ Hid (Below w.heap.size w wr)
theorem drop_at {s : List UInt8} {k : Nat} (h : k < s.length) : ∃ x, s.drop k = x :: s.drop (k + 1) ∧ byteAt s k = bi x ∧ (s.drop k).take 1 = [x] := ⟨s[k], List.drop_eq_getElem_cons h, byteAt_getElem s k h, by rw [List.drop_eq_getElem_cons h]; rfl⟩
set_option maxRecDepth 100000 in
set_option maxHeartbeats 4000000 in
theorem rcut_any (s : List UInt8) (w : World) (hs : s.length ≤ 1048576) :
    Calls Tryz.prog 65 #[Sv s] w fun e w' => ∃ v, e = .returned v ∧ OwnS w' w.heap.size v (cutB 45 s) ∧ Below w.heap.size w w' := by
  have HO0 := hid (OwnS.one w w.heap.size (Nat.le_refl _) [])
  have HB0 := hid (ext_alloc w (.cells #[Sv []] 9))
  go_enter Tryz.func65, Tryz.ntmps65
  go_wp2_with fail
  try simp only [string_Sv]
  go_loopw [3, 4] (fun v i wr => CutRel w s v i wr) (fun _ i _ => s.length - (intOf i).toNat)
  case atStart => exact ⟨_, [], [], 0, rfl, rfl, Nat.zero_le _, Nat.le_refl _, Nat.le_refl _, HO0, hid (by rw [List.drop_zero, glue_nil (cutB_ne _ _)]; rfl), HB0⟩
  case round =>
    obtain ⟨v', acc, cur, k, hv, rfl, hk, hacc, hcur, HO, HC, HB⟩ := hrel
    obtain ⟨g, cap, hform, hg, hle, hcap⟩ : ∃ g cap, v' = .slice (some ⟨g, 0, none⟩) (acc ++ [cur]).length cap ∧ w.heap.size ≤ g ∧ (acc ++ [cur]).length ≤ cap ∧ cap ≤ maxLen := by
      rcases HO.out.form with ⟨h, _⟩ | h
      · simp at h
      · exact h
    rw [List.length_append, List.length_singleton] at hform hle
    subst hv
    subst hform
    by_cases hlt : k < s.length
    · obtain ⟨x, hx, hbx, hx1⟩ := drop_at hlt
      have qi : (0 : Int) ≤ (k : Int) ∧ (k : Int) < (s.length : Int) := by omega
      by_cases h45 : x = 45
      · have hb45 : byteAt s k = 45 := by rw [hbx, h45]; rfl
        subst h45
        have HC' := hid (show cutB 45 s = (acc ++ [cur]) ++ glue [] (cutB 45 (s.drop (k + 1))) by rw [HC.out, hx, glue_eq]; simp)
        clear hbx hx1 hx HC
        have hal := (HO.out.ext (ext_alloc wr (.cells #[Sv []] 9)))
        have HA := hid hal
        have hlen2 : (acc ++ [cur]).length + 1 ≤ 8796093022208 := by simp only [List.length_append, List.length_singleton]; omega
        have HBA := hid (HB.out.alloc HB.out.size (.cells #[Sv []] 9))
        have hcell : (wr.alloc (.cells #[Sv []] 9)).cell? ⟨wr.heap.size, 0, none⟩ = some (Sv []) := (Blk.new wr _ _).cell 0
        have HCELL := hid hcell
        clear hal hcell
        go_wp2_with (refine wpList_appS rfl rfl w.heap.size _ (acc ++ [cur]) rfl HA.out [] rfl HCELL.out hlen2 HBA.out.size ?_; intro v8 w8 hown8 hg8; have HO8 := hid hown8; have HB8 := hid (show Below w.heap.size w w8 from Below.grown HBA.out hg8 HBA.out.size (fun k hk => (World.ownsRow.lt HA.out k hk).1)); clear hown8 hg8)
        refine ⟨⟨v8, acc ++ [cur], [], k + 1, rfl, by go_num, hlt, by simp; omega, Nat.zero_le _, HO8, HC', HB8⟩, by simp [intOf] <;> omega⟩
      · have hb45 : ((byteAt s k : Int) == 45) = false := by
          rw [hbx, beq_eq_false_iff_ne]
          intro e
          exact h45 (bi_inj (by rw [e]; rfl))
        have HC' := hid (show cutB 45 s = acc ++ glue (cur ++ [x]) (cutB 45 (s.drop (k + 1))) by rw [HC.out, hx, glue_ne h45])
        clear hbx hx h45 HC
        have HX1 := hid hx1
        clear hx1
        have qa : (0 : Int) ≤ (acc.length : Int) ∧ (acc.length : Int) < ((acc.length + 1 : Nat) : Int) := by omega
        have qk1 : (0 : Int) ≤ (k : Int) := by omega
        have qk2 : (k : Int) ≤ (k : Int) + 1 := by omega
        have qk3 : (k : Int) + 1 ≤ (s.length : Int) := by omega
        have qk4 : (0 : Int) ≤ (k : Int) + 1 := by omega
        have qk5 : ((k : Int) + 1).toNat - k = 1 := by omega
        have qk6 : ((k : Int) + 1).toNat = k + 1 := by omega
        have qwa : IntKind.i64.wrap (acc.length : Int) = (acc.length : Int) := IntWalk.i64_in _ (by omega)
        have qab : (acc.length : Int) < (acc.length : Int) + 1 := by omega
        have qw : IntKind.i64.wrap ((k : Int) + 1) = (k : Int) + 1 := IntWalk.i64_in _ (by omega)
        go_upto_region 7 with fail
        refine region_token_tail (fun _ u => OwnS u w.heap.size (.slice (some ⟨g, 0, none⟩) (acc.length + 1) cap) (acc ++ [cur]) ∧ Below wr.heap.size wr u) 0 undef 17 (by kernel_rfl) (by kernel_rfl) ⟨HO.out.ext (ext_drew _), ext_drew _⟩ ?_
        repeat (first
          | (refine tok_off (by decide) (fun _ => by rfl) ?_; try simp only [Act.put, List.setIfInBounds_toArray, List.set_cons_zero, List.set_cons_succ])
          | (refine tok_pure (v := ?_) (by decide) (fun _ => by rfl) ?_ ?_; rotate_left; (focus (intro x u; simp only [fam]; go_simp; with_reducible rfl)); try simp only [Act.put, List.setIfInBounds_toArray, List.set_cons_zero, List.set_cons_succ]))
        refine tok_load (v := Sv cur) 9 (.tmp 27) rfl (by decide) (fun _ => by rfl) (fun _ u h => run_load_str (h.1.at_ (k := acc.length) (by simp) (by simp))) ?_
        try simp only [Act.put, List.setIfInBounds_toArray, List.set_cons_zero, List.set_cons_succ]
        repeat (first
          | (refine tok_off (by decide) (fun _ => by rfl) ?_; try simp only [Act.put, List.setIfInBounds_toArray, List.set_cons_zero, List.set_cons_succ])
          | (refine tok_pure (v := ?_) (by decide) (fun _ => by rfl) ?_ ?_; rotate_left; (focus (intro x u; simp only [fam]; go_simp; with_reducible rfl)); try simp only [Act.put, List.setIfInBounds_toArray, List.set_cons_zero, List.set_cons_succ]))
        refine tok_add (A := cur) (B := List.take 1 (List.drop k s)) _ _ _ _ rfl (fun _ => by rfl) (fun _ => by rfl) (by have : (List.take 1 (List.drop k s)).length ≤ 1 := List.length_take_le _ _; omega) (by decide) (fun _ => by rfl) ?_
        try simp only [Act.put, List.setIfInBounds_toArray, List.set_cons_zero, List.set_cons_succ]
        rw [HX1.out]
        repeat (first
          | (refine tok_off (by decide) (fun _ => by rfl) ?_; try simp only [Act.put, List.setIfInBounds_toArray, List.set_cons_zero, List.set_cons_succ])
          | (refine tok_pure (v := ?_) (by decide) (fun _ => by rfl) ?_ ?_; rotate_left; (focus (intro x u; simp only [fam]; go_simp; with_reducible rfl)); try simp only [Act.put, List.setIfInBounds_toArray, List.set_cons_zero, List.set_cons_succ]))
        refine tok_nil (fun _ w2 h2 => ?_)
        simp only [fam]
        simp only [List.drop_succ_cons, List.drop_zero]
        have cc1 := h2.1.at_ (k := acc.length) (s := cur) (by simp) (by simp)
        have h' : w2.ownsRow w.heap.size 9 1 (.slice (some ⟨g, 0, none⟩) (acc.length + 1) cap) (acc.length + 1) ((acc ++ [cur]).map Sv) := by
          have := h2.1
          unfold OwnS at this
          rwa [List.length_append, List.length_singleton] at this
        have ff1 := World.ownsRow.frozenAt h' acc.length
        have hst := (World.ownsRow.stored h' acc.length (Sv (cur ++ [x]))).1
        have e1 : ((acc ++ [cur]).map Sv).set acc.length (Sv (cur ++ [x])) = (acc ++ [cur ++ [x]]).map Sv := by
          rw [List.map_append, List.set_append]
          simp
        rw [e1] at hst
        have HST : Hid (OwnS (w2.setCell ⟨g, acc.length, none⟩ (Sv (cur ++ [x]))) w.heap.size (.slice (some ⟨g, 0, none⟩) (acc.length + 1) cap) (acc ++ [cur ++ [x]])) := by
          refine hid ?_
          unfold OwnS
          rw [List.length_append, List.length_singleton]
          exact hst
        have HBS := hid (below_cellAt (HB.out.trans (h2.2.mono HB.out.size)) hg acc.length (Sv (cur ++ [x])))
        clear hst e1 h' h2
        go_wp2_with fail
        refine ⟨⟨_, acc, cur ++ [x], k + 1, rfl, by go_num, hlt, by omega, by simp; omega, HST, HC', HBS⟩, by simp [intOf] <;> omega⟩
    · obtain rfl : k = s.length := by omega
      have HE := hid (show cutB 45 s = acc ++ [cur] by rw [HC.out, List.drop_length, glue_end])
      go_wp2_with fail
      go_ret
      exact ⟨_, rfl, by rw [HE.out]; simpa using HO.out, HB.out⟩
end Go.Proofs.YtgfdmdikiickpaaGreatDoor

/-! BrefE -/
namespace Go.Proofs.YtgfdmdikiickpaaGreatDoor
open Go.RowKit

theorem Frm.push {w0 w : World} {L : List Bk} (h : Frm w0 w L) {g : Nat} {T : TypeId} {cs : Array Value} (hb : Blk w g T cs) (hg : w0.heap.size ≤ g) (hne : ∀ b ∈ L, b.1 ≠ g) : Frm w0 w (L ++ [(g, T, cs)]) := by
  refine ⟨h.bel, fun i b hi => ?_, fun i b hi => ?_, fun i j b c hi hj hij => ?_⟩
  · rcases snoc_get hi with ⟨q, _⟩ | ⟨_, rfl⟩
    · exact h.at_ i b q
    · exact hb
  · rcases snoc_get hi with ⟨q, _⟩ | ⟨_, rfl⟩
    · exact h.hi i b q
    · exact hg
  · rcases snoc_get hi with ⟨q, q'⟩ | ⟨q, rfl⟩ <;> rcases snoc_get hj with ⟨r, r'⟩ | ⟨r, rfl⟩
    · exact h.ne i j b c q r hij
    · exact hne b (List.mem_of_getElem? q)
    · exact (hne c (List.mem_of_getElem? r)).symm
    · omega
theorem rcut2_any (s : List UInt8) (L : List (List UInt8)) (w : World) (hs : s.length ≤ 1048576) (hL : cutB 45 s = L) :
    Calls Tryz.prog 65 #[Sv s] w fun e w' => ∃ (g cap : Nat) (cur : Array Value), e = .returned (.slice (some ⟨g, 0, none⟩) L.length cap) ∧ w.heap.size ≤ g ∧ Blk w' g 9 cur ∧ (∀ (k : Nat) q, L[k]? = some q → cur[k]? = some (Sv q)) ∧ Below w.heap.size w w' := by
  refine (rcut_any s w hs).mono ?_
  rintro e w' ⟨v, rfl, ho, hb⟩
  rw [hL] at ho
  rcases ho.2 with ⟨_, h0⟩ | ⟨g, cap, cur, hv, hg, hh, _, _, _, hx⟩
  · have : 0 < L.length := by rw [← hL]; exact cutB_pos 45 s
    omega
  · refine ⟨g, cap, cur, by rw [hv], hg, hh, fun k q hq => ?_, hb⟩
    have hlt : k < L.length := by
      rcases Nat.lt_or_ge k L.length with r | r
      · exact r
      · rw [List.getElem?_eq_none r] at hq; cases hq
    have := congrArg (fun l : List Value => l[k]?) hx
    simp only [List.getElem?_map, hq, Option.map_some] at this
    rw [List.getElem?_take_of_lt (by omega)] at this
    simpa using this

set_option maxRecDepth 100000 in
set_option maxHeartbeats 4000000 in
theorem rone_many (s : List UInt8) (L : List (List UInt8)) (w : World) (hs : s.length ≤ 1048576) (hL : cutB 45 s = L) (hn : 4 < L.length) :
    Calls Tryz.prog 31 #[Sv s] w fun e w' => e = .returned (cxOut (oneR s)) ∧ Below w.heap.size w w' := by
  have HO := hid (show oneR s = cxBad 3 by unfold oneR; rw [hL]; exact oneL_many hn)
  have HL := hid hL
  clear hL
  have HF := hid ((Frm.start w).new0 31 rfl)
  go_enter Tryz.func31, Tryz.ntmps31
  go_wp2_with fail
  refine (rcut2_any s _ _ hs HL.out).mono ?_; rintro e w1 ⟨g, cap, cur, rfl, hg, hbk, hcur, hb1⟩
  rw [size_alloc] at hg
  have HF1 := hid ((HF.out.call hb1).push hbk (by omega) (fun b hb => by obtain rfl := List.mem_singleton.1 hb; show w.heap.size ≠ g; omega))
  have HCUR := hid hcur
  clear hbk hcur hb1 hg
  obtain ⟨n, hN⟩ : ∃ n, L.length = n := ⟨_, rfl⟩
  rw [hN]
  rw [hN] at hn
  have q4 : (4 : Int) < (n : Int) := by omega
  clear hN
  go_wp2_with (first
    | (refine at_store 31 (by rfl) ?_; refine wpList_putCv HF1.out 0 (t := zb 16) (x := zb 8) (p := zb 8) (k := 0) rfl rfl rfl okc_zero okc_zero rfl rfl ?_; intro w9 h9; have HF9 := hid h9; clear h9))
  exact bodyPost_ret (results_cv2 rfl _ _ _ _ _ _ _ _ _ rfl (HF9.out.get 0 rfl) Tryz.underlying31 rfl info_ctx okc_zero) rfl ⟨by rw [HO.out]; rfl, HF9.out.bel⟩
set_option maxRecDepth 100000 in
set_option maxHeartbeats 4000000 in
theorem rone_one (s : List UInt8) (w : World) (hs : s.length ≤ 1048576) (hL : cutB 45 s = [s]) :
    Calls Tryz.prog 31 #[Sv s] w fun e w' => e = .returned (cxOut (oneR s)) ∧ Below w.heap.size w w' := by
  have HO := hid (show oneR s = if keepS s = 0 then cxBad 3 else (zb 16, zb 8, zb 8, keepS s, 0) by unfold oneR; rw [hL]; rfl)
  have HL := hid hL
  have hkeep := fun u => rkeep_any s u
  generalize keepS s = k at HO hkeep
  clear hL
  have HF := hid ((Frm.start w).new0 31 rfl)
  go_enter Tryz.func31, Tryz.ntmps31
  go_wp2_with fail
  refine (rcut2_any s _ _ hs HL.out).mono ?_; rintro e w1 ⟨g, cap, cur, rfl, hg, hbk, hcur, hb1⟩
  rw [size_alloc] at hg
  have HF1 := hid ((HF.out.call hb1).push hbk (by omega) (fun b hb => by obtain rfl := List.mem_singleton.1 hb; show w.heap.size ≠ g; omega))
  have HCUR := hid hcur
  clear hbk hcur hb1 hg
  simp only [List.length_singleton]
  go_wp2_with (first
    | (go_at_call 66; refine (hkeep _).mono ?_; rintro e w2 ⟨rfl, hb2⟩; first | (have HF3 := hid (HF2.out.call hb2); clear hb2) | (have HF2 := hid (HF1.out.call hb2); clear hb2))
    | (refine at_store 31 (by rfl) ?_; refine wpList_putCv HF2.out 0 (t := zb 16) (x := zb 8) (p := zb 8) (k := 0) rfl rfl rfl okc_zero okc_zero rfl rfl ?_; intro w9 h9; have HF9 := hid h9; clear h9)
    | (refine wpList_build1 rfl 31 3 _ rfl (.int .i64 k) _ rfl (built_konly k) ?_; change wpList _ _ _ _ (Act.put _ _ (Cv (zb 16) (zb 8) (zb 8) k)) _)
    | (refine at_store 31 (by rfl) ?_; refine wpList_putCv HF3.out 0 (t := zb 16) (x := zb 8) (p := zb 8) (k := k) rfl rfl rfl okc_zero okc_zero rfl rfl ?_; intro w9 h9; have HF9 := hid h9; clear h9))
  · have q2 : k = 0 := by first | assumption | exact beqi_yes (by assumption) | omega
    exact bodyPost_ret (results_cv2 rfl _ _ _ _ _ _ _ _ _ rfl (HF9.out.get 0 rfl) Tryz.underlying31 rfl info_ctx okc_zero) rfl ⟨by rw [HO.out, if_pos q2]; rfl, HF9.out.bel⟩
  · have q2 : k ≠ 0 := by first | assumption | exact beqi_no (by assumption) | omega
    exact bodyPost_ret (results_cv2 rfl _ _ _ _ _ _ _ _ _ rfl (HF9.out.get 0 rfl) Tryz.underlying31 rfl info_ctx okc_zero) rfl ⟨by rw [HO.out, if_neg q2]; rfl, HF9.out.bel⟩
set_option maxRecDepth 100000 in
set_option maxHeartbeats 4000000 in
theorem rone_2 (s : List UInt8) (a b : List UInt8) (w : World) (hs : s.length ≤ 1048576) (hL : cutB 45 s = [a, b]) :
    Calls Tryz.prog 31 #[Sv s] w fun e w' => e = .returned (cxOut (oneR s)) ∧ Below w.heap.size w w' := by
  have hsm : ∀ q ∈ [a, b], q.length ≤ 140737488355328 := by rw [← hL]; exact pieces 45 (by omega)
  have HO := hid (show oneR s = idsR a b by unfold oneR; rw [hL]; rfl)
  have HL := hid hL
  have htr := fun u => rreadtrace_any a u (hsm a (by simp))
  have hsp := fun u => rreadspan_any b u (hsm b (by simp))
  have HT := hid (traceT_length a)
  have HX := hid (spanT_length b)
  have HE := hid (show idsR a b = if traceC a = 0 then (if spanC b = 0 then (traceT a, spanT b, zb 8, 0, 0) else cxBad (spanC b)) else cxBad (traceC a) from rfl)
  generalize traceC a = ta at htr HE
  generalize spanC b = sb at hsp HE
  generalize traceT a = T at htr HE HT
  generalize spanT b = X at hsp HE HX
  clear hL hsm
  have HF := hid ((Frm.start w).new0 31 rfl)
  go_enter Tryz.func31, Tryz.ntmps31
  go_wp2_with fail
  refine (rcut2_any s _ _ hs HL.out).mono ?_; rintro e w1 ⟨g, cap, cur, rfl, hg, hbk, hcur, hb1⟩
  rw [size_alloc] at hg
  have HF1 := hid ((HF.out.call hb1).push hbk (by omega) (fun b hb => by obtain rfl := List.mem_singleton.1 hb; show w.heap.size ≠ g; omega))
  have HCUR := hid hcur
  clear hbk hcur hb1 hg
  have HC0 := hid (HCUR.out 0 a rfl)
  have HC1 := hid (HCUR.out 1 b rfl)
  simp only [List.length_cons, List.length_nil]
  go_wp2_with (first
    | (refine at_load 9 (by rfl) ?_; refine wpList_loadE rfl rfl (run_load_str (HF1.out.cell 1 rfl 0 HC0.out)) rfl ?_)
    | (go_at_call 62; refine (htr _).mono ?_; rintro e w2 ⟨rfl, hb2⟩; have HF2 := hid ((HF1.out.call hb2).new 27 (b8s (zb 16)).toArray rfl); clear hb2)
    | (refine at_store 27 (by rfl) ?_; refine wpList_put16 HF2.out 2 rfl rfl rfl (zb_length _) HT.out rfl rfl ?_; intro w3 h3; have HF3 := hid h3; clear h3)
    | (refine at_store 31 (by rfl) ?_; refine wpList_putCv HF3.out 0 (t := zb 16) (x := zb 8) (p := zb 8) (k := 0) rfl rfl rfl okc_zero okc_zero rfl rfl ?_; intro w9 h9; have HF9 := hid h9; clear h9)
    | (refine at_load 9 (by rfl) ?_; refine wpList_loadE rfl rfl (run_load_str (HF3.out.cell 1 rfl 1 HC1.out)) rfl ?_)
    | (go_at_call 63; (with_reducible refine (hsp _).mono ?_); rintro e w4 ⟨rfl, hb4⟩; have HF4 := hid ((HF3.out.call hb4).new 29 (b8s (zb 8)).toArray rfl); clear hb4)
    | (refine at_store 29 (by rfl) ?_; refine wpList_put8 HF4.out 3 rfl rfl rfl (zb_length _) HX.out rfl rfl ?_; intro w5 h5; have HF5 := hid h5; have HF5n := hid (h5.new0 31 rfl); clear h5)
    | (refine at_store 31 (by rfl) ?_; refine wpList_putCv HF5.out 0 (t := zb 16) (x := zb 8) (p := zb 8) (k := 0) rfl rfl rfl okc_zero okc_zero rfl rfl ?_; intro w9 h9; have HF9 := hid h9; clear h9)
    | (refine at_load 27 (by rfl) ?_; refine wpList_loadE rfl rfl (HF5.out.load16 2 rfl HT.out) rfl ?_)
    | (refine at_load 29 (by rfl) ?_; refine wpList_loadE rfl rfl (HF5.out.load8 3 rfl HX.out) rfl ?_)
    | (refine wpList_build2 rfl 31 0 1 _ _ rfl (Av T) (Av X) _ rfl rfl (built_cnames _ _ HT.out HX.out) ?_; change wpList _ _ _ _ (Act.put _ _ (Cv T X (zb 8) 0)) _)
    | (refine at_store 31 (by rfl) ?_; refine wpList_putCv HF5n.out 4 rfl rfl rfl okc_zero ⟨HT.out, HX.out, zb_length _⟩ rfl rfl ?_; intro w6 h6; have HF6 := hid h6; clear h6)
    | (refine at_load 31 (by rfl) ?_; refine wpList_loadE rfl rfl (HF6.out.loadCv 4 rfl ⟨HT.out, HX.out, zb_length _⟩) rfl ?_)
    | (refine at_store 31 (by rfl) ?_; refine wpList_putCv HF6.out 0 rfl rfl rfl okc_zero ⟨HT.out, HX.out, zb_length _⟩ rfl rfl ?_; intro w9 h9; have HF9 := hid h9; clear h9))
  · have q1 : ta ≠ 0 := by first | assumption | exact beqi_no (by assumption) | exact neq_yes (by assumption) | omega
    exact bodyPost_ret (results_cv2 rfl _ _ _ _ _ _ _ _ _ rfl (HF9.out.get 0 rfl) Tryz.underlying31 rfl info_ctx okc_zero) rfl ⟨by rw [HO.out, HE.out, if_neg q1]; rfl, HF9.out.bel⟩
  · have q1 : ta = 0 := by first | assumption | exact beqi_yes (by assumption) | exact neq_no (by assumption) | omega
    have q2 : sb ≠ 0 := by first | assumption | exact beqi_no (by assumption) | exact neq_yes (by assumption) | omega
    exact bodyPost_ret (results_cv2 rfl _ _ _ _ _ _ _ _ _ rfl (HF9.out.get 0 rfl) Tryz.underlying31 rfl info_ctx okc_zero) rfl ⟨by rw [HO.out, HE.out, if_pos q1, if_neg q2]; rfl, HF9.out.bel⟩
  · have q1 : ta = 0 := by first | assumption | exact beqi_yes (by assumption) | exact neq_no (by assumption) | omega
    have q2 : sb = 0 := by first | assumption | exact beqi_yes (by assumption) | exact neq_no (by assumption) | omega
    exact bodyPost_ret (results_cv2 rfl _ _ _ _ _ _ _ _ _ rfl (HF9.out.get 0 rfl) Tryz.underlying31 rfl info_ctx ⟨HT.out, HX.out, zb_length _⟩) rfl ⟨by rw [HO.out, HE.out, if_pos q1, if_pos q2]; rfl, HF9.out.bel⟩
set_option maxRecDepth 100000 in
set_option maxHeartbeats 4000000 in
theorem rone_3 (s : List UInt8) (a b c : List UInt8) (w : World) (hs : s.length ≤ 1048576) (hL : cutB 45 s = [a, b, c]) :
    Calls Tryz.prog 31 #[Sv s] w fun e w' => e = .returned (cxOut (oneR s)) ∧ Below w.heap.size w w' := by
  have hsm : ∀ q ∈ [a, b, c], q.length ≤ 140737488355328 := by rw [← hL]; exact pieces 45 (by omega)
  have HO := hid (show oneR s = keepR (idsR a b) c by unfold oneR; rw [hL]; rfl)
  have HL := hid hL
  have htr := fun u => rreadtrace_any a u (hsm a (by simp))
  have hsp := fun u => rreadspan_any b u (hsm b (by simp))
  have HT := hid (traceT_length a)
  have HX := hid (spanT_length b)
  have HE := hid (show idsR a b = if traceC a = 0 then (if spanC b = 0 then (traceT a, spanT b, zb 8, 0, 0) else cxBad (spanC b)) else cxBad (traceC a) from rfl)
  generalize traceC a = ta at htr HE
  generalize spanC b = sb at hsp HE
  generalize traceT a = T at htr HE HT
  generalize spanT b = X at hsp HE HX
  have hkeep := fun u => rkeep_any c u
  have HK := hid (show ∀ r : Cx, keepR r c = if r.2.2.2.2 = 0 then (if keepS c = 0 then cxBad 3 else (r.1, r.2.1, r.2.2.1, keepS c, 0)) else r from fun _ => rfl)
  generalize keepS c = kc at hkeep HK
  clear hL hsm
  have HF := hid ((Frm.start w).new0 31 rfl)
  go_enter Tryz.func31, Tryz.ntmps31
  go_wp2_with fail
  refine (rcut2_any s _ _ hs HL.out).mono ?_; rintro e w1 ⟨g, cap, cur, rfl, hg, hbk, hcur, hb1⟩
  rw [size_alloc] at hg
  have HF1 := hid ((HF.out.call hb1).push hbk (by omega) (fun b hb => by obtain rfl := List.mem_singleton.1 hb; show w.heap.size ≠ g; omega))
  have HCUR := hid hcur
  clear hbk hcur hb1 hg
  have HC0 := hid (HCUR.out 0 a rfl)
  have HC1 := hid (HCUR.out 1 b rfl)
  have HC2 := hid (HCUR.out 2 c rfl)
  simp only [List.length_cons, List.length_nil]
  go_wp2_with (first
    | (refine at_load 9 (by rfl) ?_; refine wpList_loadE rfl rfl (run_load_str (HF1.out.cell 1 rfl 0 HC0.out)) rfl ?_)
    | (go_at_call 62; refine (htr _).mono ?_; rintro e w2 ⟨rfl, hb2⟩; have HF2 := hid ((HF1.out.call hb2).new 27 (b8s (zb 16)).toArray rfl); clear hb2)
    | (refine at_store 27 (by rfl) ?_; refine wpList_put16 HF2.out 2 rfl rfl rfl (zb_length _) HT.out rfl rfl ?_; intro w3 h3; have HF3 := hid h3; clear h3)
    | (refine at_store 31 (by rfl) ?_; refine wpList_putCv HF3.out 0 (t := zb 16) (x := zb 8) (p := zb 8) (k := 0) rfl rfl rfl okc_zero okc_zero rfl rfl ?_; intro w9 h9; have HF9 := hid h9; clear h9)
    | (refine at_load 9 (by rfl) ?_; refine wpList_loadE rfl rfl (run_load_str (HF3.out.cell 1 rfl 1 HC1.out)) rfl ?_)
    | (go_at_call 63; (with_reducible refine (hsp _).mono ?_); rintro e w4 ⟨rfl, hb4⟩; have HF4 := hid ((HF3.out.call hb4).new 29 (b8s (zb 8)).toArray rfl); clear hb4)
    | (refine at_store 29 (by rfl) ?_; refine wpList_put8 HF4.out 3 rfl rfl rfl (zb_length _) HX.out rfl rfl ?_; intro w5 h5; have HF5 := hid h5; have HF5n := hid (h5.new0 31 rfl); clear h5)
    | (refine at_store 31 (by rfl) ?_; refine wpList_putCv HF5.out 0 (t := zb 16) (x := zb 8) (p := zb 8) (k := 0) rfl rfl rfl okc_zero okc_zero rfl rfl ?_; intro w9 h9; have HF9 := hid h9; clear h9)
    | (refine at_load 27 (by rfl) ?_; refine wpList_loadE rfl rfl (HF5.out.load16 2 rfl HT.out) rfl ?_)
    | (refine at_load 29 (by rfl) ?_; refine wpList_loadE rfl rfl (HF5.out.load8 3 rfl HX.out) rfl ?_)
    | (refine wpList_build2 rfl 31 0 1 _ _ rfl (Av T) (Av X) _ rfl rfl (built_cnames _ _ HT.out HX.out) ?_; change wpList _ _ _ _ (Act.put _ _ (Cv T X (zb 8) 0)) _)
    | (refine at_store 31 (by rfl) ?_; refine wpList_putCv HF5n.out 4 rfl rfl rfl okc_zero ⟨HT.out, HX.out, zb_length _⟩ rfl rfl ?_; intro w6 h6; have HF6 := hid h6; clear h6)
    | (refine at_load 9 (by rfl) ?_; refine wpList_loadE rfl rfl (run_load_str (HF6.out.cell 1 rfl 2 HC2.out)) rfl ?_)
    | (go_at_call 66; refine (hkeep _).mono ?_; rintro e w7 ⟨rfl, hb7⟩; have HF7 := hid (HF6.out.call hb7); clear hb7)
    | (refine at_store 3 (by rfl) ?_; refine wpList_putK HF7.out 4 rfl rfl rfl ⟨HT.out, HX.out, zb_length _⟩ rfl rfl ?_; intro w8 h8; have HF8 := hid h8; clear h8)
    | (refine at_load 3 (by rfl) ?_; refine wpList_loadE rfl rfl (HF8.out.loadK 4 rfl ⟨HT.out, HX.out, zb_length _⟩) rfl ?_)
    | (refine at_store 31 (by rfl) ?_; refine wpList_putCv HF8.out 0 (t := zb 16) (x := zb 8) (p := zb 8) (k := 0) rfl rfl rfl okc_zero okc_zero rfl rfl ?_; intro w9 h9; have HF9 := hid h9; clear h9)
    | (refine at_load 31 (by rfl) ?_; refine wpList_loadE rfl rfl (HF8.out.loadCv 4 rfl ⟨HT.out, HX.out, zb_length _⟩) rfl ?_)
    | (refine at_store 31 (by rfl) ?_; refine wpList_putCv HF8.out 0 rfl rfl rfl okc_zero ⟨HT.out, HX.out, zb_length _⟩ rfl rfl ?_; intro w9 h9; have HF9 := hid h9; clear h9))
  · have q1 : ta ≠ 0 := by first | assumption | exact beqi_no (by assumption) | exact neq_yes (by assumption) | omega
    exact bodyPost_ret (results_cv2 rfl _ _ _ _ _ _ _ _ _ rfl (HF9.out.get 0 rfl) Tryz.underlying31 rfl info_ctx okc_zero) rfl ⟨by rw [HO.out, HE.out, if_neg q1, HK.out, if_neg (show (cxBad ta).2.2.2.2 ≠ 0 from q1)]; rfl, HF9.out.bel⟩
  · have q1 : ta = 0 := by first | assumption | exact beqi_yes (by assumption) | exact neq_no (by assumption) | omega
    have q2 : sb ≠ 0 := by first | assumption | exact beqi_no (by assumption) | exact neq_yes (by assumption) | omega
    exact bodyPost_ret (results_cv2 rfl _ _ _ _ _ _ _ _ _ rfl (HF9.out.get 0 rfl) Tryz.underlying31 rfl info_ctx okc_zero) rfl ⟨by rw [HO.out, HE.out, if_pos q1, if_neg q2, HK.out, if_neg (show (cxBad sb).2.2.2.2 ≠ 0 from q2)]; rfl, HF9.out.bel⟩
  · have q1 : ta = 0 := by first | assumption | exact beqi_yes (by assumption) | exact neq_no (by assumption) | omega
    have q2 : sb = 0 := by first | assumption | exact beqi_yes (by assumption) | exact neq_no (by assumption) | omega
    have q3 : kc = 0 := by first | assumption | exact beqi_yes (by assumption) | exact neq_no (by assumption) | omega
    exact bodyPost_ret (results_cv2 rfl _ _ _ _ _ _ _ _ _ rfl (HF9.out.get 0 rfl) Tryz.underlying31 rfl info_ctx okc_zero) rfl ⟨by rw [HO.out, HE.out, if_pos q1, if_pos q2, HK.out, if_pos rfl, if_pos q3]; rfl, HF9.out.bel⟩
  · have q1 : ta = 0 := by first | assumption | exact beqi_yes (by assumption) | exact neq_no (by assumption) | omega
    have q2 : sb = 0 := by first | assumption | exact beqi_yes (by assumption) | exact neq_no (by assumption) | omega
    have q3 : kc ≠ 0 := by first | assumption | exact beqi_no (by assumption) | exact neq_yes (by assumption) | omega
    exact bodyPost_ret (results_cv2 rfl _ _ _ _ _ _ _ _ _ rfl (HF9.out.get 0 rfl) Tryz.underlying31 rfl info_ctx ⟨HT.out, HX.out, zb_length _⟩) rfl ⟨by rw [HO.out, HE.out, if_pos q1, if_pos q2, HK.out, if_pos rfl, if_neg q3]; rfl, HF9.out.bel⟩
set_option maxRecDepth 100000 in
set_option maxHeartbeats 4000000 in
theorem rone_4 (s : List UInt8) (a b c d : List UInt8) (w : World) (hs : s.length ≤ 1048576) (hL : cutB 45 s = [a, b, c, d]) :
    Calls Tryz.prog 31 #[Sv s] w fun e w' => e = .returned (cxOut (oneR s)) ∧ Below w.heap.size w w' := by
  have hsm : ∀ q ∈ [a, b, c, d], q.length ≤ 140737488355328 := by rw [← hL]; exact pieces 45 (by omega)
  have HO := hid (show oneR s = parR (keepR (idsR a b) c) d by unfold oneR; rw [hL]; rfl)
  have HL := hid hL
  have htr := fun u => rreadtrace_any a u (hsm a (by simp))
  have hsp := fun u => rreadspan_any b u (hsm b (by simp))
  have HT := hid (traceT_length a)
  have HX := hid (spanT_length b)
  have HE := hid (show idsR a b = if traceC a = 0 then (if spanC b = 0 then (traceT a, spanT b, zb 8, 0, 0) else cxBad (spanC b)) else cxBad (traceC a) from rfl)
  generalize traceC a = ta at htr HE
  generalize spanC b = sb at hsp HE
  generalize traceT a = T at htr HE HT
  generalize spanT b = X at hsp HE HX
  have hkeep := fun u => rkeep_any c u
  have HK := hid (show ∀ r : Cx, keepR r c = if r.2.2.2.2 = 0 then (if keepS c = 0 then cxBad 3 else (r.1, r.2.1, r.2.2.1, keepS c, 0)) else r from fun _ => rfl)
  generalize keepS c = kc at hkeep HK
  have hsd := fun u => rreadspan_any d u (hsm d (by simp))
  have HD := hid (spanT_length d)
  have HP := hid (show ∀ r : Cx, parR r d = if r.2.2.2.2 = 0 then (if spanC d = 0 then (r.1, r.2.1, spanT d, r.2.2.2.1, 0) else cxBad (spanC d)) else r from fun _ => rfl)
  generalize spanC d = dc at hsd HP
  generalize spanT d = D at hsd HP HD
  clear hL hsm
  have HF := hid ((Frm.start w).new0 31 rfl)
  go_enter Tryz.func31, Tryz.ntmps31
  go_wp2_with fail
  refine (rcut2_any s _ _ hs HL.out).mono ?_; rintro e w1 ⟨g, cap, cur, rfl, hg, hbk, hcur, hb1⟩
  rw [size_alloc] at hg
  have HF1 := hid ((HF.out.call hb1).push hbk (by omega) (fun b hb => by obtain rfl := List.mem_singleton.1 hb; show w.heap.size ≠ g; omega))
  have HCUR := hid hcur
  clear hbk hcur hb1 hg
  have HC0 := hid (HCUR.out 0 a rfl)
  have HC1 := hid (HCUR.out 1 b rfl)
  have HC2 := hid (HCUR.out 2 c rfl)
  have HC3 := hid (HCUR.out 3 d rfl)
  simp only [List.length_cons, List.length_nil]
  go_wp2_with (first
    | (refine at_load 9 (by rfl) ?_; refine wpList_loadE rfl rfl (run_load_str (HF1.out.cell 1 rfl 0 HC0.out)) rfl ?_)
    | (go_at_call 62; refine (htr _).mono ?_; rintro e w2 ⟨rfl, hb2⟩; have HF2 := hid ((HF1.out.call hb2).new 27 (b8s (zb 16)).toArray rfl); clear hb2)
    | (refine at_store 27 (by rfl) ?_; refine wpList_put16 HF2.out 2 rfl rfl rfl (zb_length _) HT.out rfl rfl ?_; intro w3 h3; have HF3 := hid h3; clear h3)
    | (refine at_store 31 (by rfl) ?_; refine wpList_putCv HF3.out 0 (t := zb 16) (x := zb 8) (p := zb 8) (k := 0) rfl rfl rfl okc_zero okc_zero rfl rfl ?_; intro w9 h9; have HF9 := hid h9; clear h9)
    | (refine at_load 9 (by rfl) ?_; refine wpList_loadE rfl rfl (run_load_str (HF3.out.cell 1 rfl 1 HC1.out)) rfl ?_)
    | (go_at_call 63; (with_reducible refine (hsp _).mono ?_); rintro e w4 ⟨rfl, hb4⟩; have HF4 := hid ((HF3.out.call hb4).new 29 (b8s (zb 8)).toArray rfl); clear hb4)
    | (refine at_store 29 (by rfl) ?_; refine wpList_put8 HF4.out 3 rfl rfl rfl (zb_length _) HX.out rfl rfl ?_; intro w5 h5; have HF5 := hid h5; have HF5n := hid (h5.new0 31 rfl); clear h5)
    | (refine at_store 31 (by rfl) ?_; refine wpList_putCv HF5.out 0 (t := zb 16) (x := zb 8) (p := zb 8) (k := 0) rfl rfl rfl okc_zero okc_zero rfl rfl ?_; intro w9 h9; have HF9 := hid h9; clear h9)
    | (refine at_load 27 (by rfl) ?_; refine wpList_loadE rfl rfl (HF5.out.load16 2 rfl HT.out) rfl ?_)
    | (refine at_load 29 (by rfl) ?_; refine wpList_loadE rfl rfl (HF5.out.load8 3 rfl HX.out) rfl ?_)
    | (refine wpList_build2 rfl 31 0 1 _ _ rfl (Av T) (Av X) _ rfl rfl (built_cnames _ _ HT.out HX.out) ?_; change wpList _ _ _ _ (Act.put _ _ (Cv T X (zb 8) 0)) _)
    | (refine at_store 31 (by rfl) ?_; refine wpList_putCv HF5n.out 4 rfl rfl rfl okc_zero ⟨HT.out, HX.out, zb_length _⟩ rfl rfl ?_; intro w6 h6; have HF6 := hid h6; clear h6)
    | (refine at_load 9 (by rfl) ?_; refine wpList_loadE rfl rfl (run_load_str (HF6.out.cell 1 rfl 2 HC2.out)) rfl ?_)
    | (go_at_call 66; refine (hkeep _).mono ?_; rintro e w7 ⟨rfl, hb7⟩; have HF7 := hid (HF6.out.call hb7); clear hb7)
    | (refine at_store 3 (by rfl) ?_; refine wpList_putK HF7.out 4 rfl rfl rfl ⟨HT.out, HX.out, zb_length _⟩ rfl rfl ?_; intro w8 h8; have HF8 := hid h8; clear h8)
    | (refine at_load 3 (by rfl) ?_; refine wpList_loadE rfl rfl (HF8.out.loadK 4 rfl ⟨HT.out, HX.out, zb_length _⟩) rfl ?_)
    | (refine at_store 31 (by rfl) ?_; refine wpList_putCv HF8.out 0 (t := zb 16) (x := zb 8) (p := zb 8) (k := 0) rfl rfl rfl okc_zero okc_zero rfl rfl ?_; intro w9 h9; have HF9 := hid h9; clear h9)
    | (refine at_load 9 (by rfl) ?_; refine wpList_loadE rfl rfl (run_load_str (HF8.out.cell 1 rfl 3 HC3.out)) rfl ?_)
    | (go_at_call 63; (with_reducible refine (hsd _).mono ?_); rintro e wa ⟨rfl, hba⟩; have HFa := hid ((HF8.out.call hba).new 29 (b8s (zb 8)).toArray rfl); clear hba)
    | (refine at_store 29 (by rfl) ?_; refine wpList_put8 HFa.out 5 rfl rfl rfl (zb_length _) HD.out rfl rfl ?_; intro wb hb; have HFb := hid hb; clear hb)
    | (refine at_store 31 (by rfl) ?_; refine wpList_putCv HFb.out 0 (t := zb 16) (x := zb 8) (p := zb 8) (k := 0) rfl rfl rfl okc_zero okc_zero rfl rfl ?_; intro w9 h9; have HF9 := hid h9; clear h9)
    | (refine at_load 29 (by rfl) ?_; refine wpList_loadE rfl rfl (HFb.out.load8 5 rfl HD.out) rfl ?_)
    | (refine at_store 29 (by rfl) ?_; refine wpList_putP HFb.out 4 rfl rfl rfl ⟨HT.out, HX.out, zb_length _⟩ HD.out rfl rfl ?_; intro wc hc; have HFc := hid hc; clear hc)
    | (refine at_load 31 (by rfl) ?_; refine wpList_loadE rfl rfl (HFc.out.loadCv 4 rfl ⟨HT.out, HX.out, HD.out⟩) rfl ?_)
    | (refine at_store 31 (by rfl) ?_; refine wpList_putCv HFc.out 0 rfl rfl rfl okc_zero ⟨HT.out, HX.out, HD.out⟩ rfl rfl ?_; intro w9 h9; have HF9 := hid h9; clear h9))
  · have q1 : ta ≠ 0 := by first | assumption | exact beqi_no (by assumption) | exact neq_yes (by assumption) | omega
    exact bodyPost_ret (results_cv2 rfl _ _ _ _ _ _ _ _ _ rfl (HF9.out.get 0 rfl) Tryz.underlying31 rfl info_ctx okc_zero) rfl ⟨by rw [HO.out, HE.out, if_neg q1, HK.out, if_neg (show (cxBad ta).2.2.2.2 ≠ 0 from q1), HP.out, if_neg (show (cxBad ta).2.2.2.2 ≠ 0 from q1)]; rfl, HF9.out.bel⟩
  · have q1 : ta = 0 := by first | assumption | exact beqi_yes (by assumption) | exact neq_no (by assumption) | omega
    have q2 : sb ≠ 0 := by first | assumption | exact beqi_no (by assumption) | exact neq_yes (by assumption) | omega
    exact bodyPost_ret (results_cv2 rfl _ _ _ _ _ _ _ _ _ rfl (HF9.out.get 0 rfl) Tryz.underlying31 rfl info_ctx okc_zero) rfl ⟨by rw [HO.out, HE.out, if_pos q1, if_neg q2, HK.out, if_neg (show (cxBad sb).2.2.2.2 ≠ 0 from q2), HP.out, if_neg (show (cxBad sb).2.2.2.2 ≠ 0 from q2)]; rfl, HF9.out.bel⟩
  · have q1 : ta = 0 := by first | assumption | exact beqi_yes (by assumption) | exact neq_no (by assumption) | omega
    have q2 : sb = 0 := by first | assumption | exact beqi_yes (by assumption) | exact neq_no (by assumption) | omega
    have q3 : kc = 0 := by first | assumption | exact beqi_yes (by assumption) | exact neq_no (by assumption) | omega
    exact bodyPost_ret (results_cv2 rfl _ _ _ _ _ _ _ _ _ rfl (HF9.out.get 0 rfl) Tryz.underlying31 rfl info_ctx okc_zero) rfl ⟨by rw [HO.out, HE.out, if_pos q1, if_pos q2, HK.out, if_pos rfl, if_pos q3, HP.out, if_neg (show (cxBad 3).2.2.2.2 ≠ 0 by decide)]; rfl, HF9.out.bel⟩
  · have q1 : ta = 0 := by first | assumption | exact beqi_yes (by assumption) | exact neq_no (by assumption) | omega
    have q2 : sb = 0 := by first | assumption | exact beqi_yes (by assumption) | exact neq_no (by assumption) | omega
    have q3 : kc ≠ 0 := by first | assumption | exact beqi_no (by assumption) | exact neq_yes (by assumption) | omega
    have q4 : dc ≠ 0 := by first | assumption | exact beqi_no (by assumption) | exact neq_yes (by assumption) | omega
    exact bodyPost_ret (results_cv2 rfl _ _ _ _ _ _ _ _ _ rfl (HF9.out.get 0 rfl) Tryz.underlying31 rfl info_ctx okc_zero) rfl ⟨by rw [HO.out, HE.out, if_pos q1, if_pos q2, HK.out, if_pos rfl, if_neg q3, HP.out, if_pos rfl, if_neg q4]; rfl, HF9.out.bel⟩
  · have q1 : ta = 0 := by first | assumption | exact beqi_yes (by assumption) | exact neq_no (by assumption) | omega
    have q2 : sb = 0 := by first | assumption | exact beqi_yes (by assumption) | exact neq_no (by assumption) | omega
    have q3 : kc ≠ 0 := by first | assumption | exact beqi_no (by assumption) | exact neq_yes (by assumption) | omega
    have q4 : dc = 0 := by first | assumption | exact beqi_yes (by assumption) | exact neq_no (by assumption) | omega
    exact bodyPost_ret (results_cv2 rfl _ _ _ _ _ _ _ _ _ rfl (HF9.out.get 0 rfl) Tryz.underlying31 rfl info_ctx ⟨HT.out, HX.out, HD.out⟩) rfl ⟨by rw [HO.out, HE.out, if_pos q1, if_pos q2, HK.out, if_pos rfl, if_neg q3, HP.out, if_pos rfl, if_pos q4]; rfl, HF9.out.bel⟩
theorem rreadone_any (s : List UInt8) (w : World) (hs : s.length ≤ 1048576) :
    Calls Tryz.prog 31 #[Sv s] w fun e w' => e = .returned (cxOut (oneR s)) ∧ Below w.heap.size w w' := by
  have hp := cutB_pos 45 s
  match hL : cutB 45 s with
  | [] => rw [hL] at hp; exact absurd hp (by decide)
  | [a] => exact rone_one s w hs (cutB_one (by rw [hL]; rfl))
  | [a, b] => exact rone_2 s a b w hs hL
  | [a, b, c] => exact rone_3 s a b c w hs hL
  | [a, b, c, d] => exact rone_4 s a b c d w hs hL
  | a :: b :: c :: d :: e :: r => exact rone_many s _ w hs hL (by simp)
end Go.Proofs.YtgfdmdikiickpaaGreatDoor

/-! BrefF -/
namespace Go.Proofs.YtgfdmdikiickpaaGreatDoor
open Go.RowKit

theorem wpList_putT {ops : Array Oper} {rest : List Oper} {o : Oper} {a : Act} {w w0 : World} {Q : Exit → Act → World → Prop} {L : List Bk} (h : Frm w0 w L) (i : Nat) {g : Nat} {T : TypeId} {t x p q : List UInt8} {k : Int} {y z : Operand} (hgd : o.guard = none) (ho : o.op = .store 27 y z)
    (hi : L[i]? = some (g, T, (cc t x p k).toArray)) (hl : Okc t x p) (hq : q.length = 16) (hx : a.eval y = .pointer (some ⟨g, 0, none⟩)) (hy : a.eval z = Av q)
    (hn : ∀ w', Frm w0 w' (L.set i (g, T, (cc q x p k).toArray)) → wpList Tryz.prog ops Q rest (a.put o.dst undef) w') : wpList Tryz.prog ops Q (o :: rest) a w := by
  refine wpList_store_seg hgd _ y z ho g 0 16 T [] (b8s x ++ b8s p ++ [.int .i64 k]) q t hx hy (h.get i hi).ccT rfl info_trace hq hl.1 (fun w' hw _ => hn w' ?_)
  have := h.setSeg i (pre := []) (mid := b8s t) (post := b8s x ++ b8s p ++ [.int .i64 k]) (by rw [← cc_trace]; exact hi) (b8s q) (by simp [hq, hl.1])
  rw [← cc_trace] at this
  rw [hw]; exact this
theorem wpList_putX {ops : Array Oper} {rest : List Oper} {o : Oper} {a : Act} {w w0 : World} {Q : Exit → Act → World → Prop} {L : List Bk} (h : Frm w0 w L) (i : Nat) {g : Nat} {T : TypeId} {t x p q : List UInt8} {k : Int} {y z : Operand} (hgd : o.guard = none) (ho : o.op = .store 29 y z)
    (hi : L[i]? = some (g, T, (cc t x p k).toArray)) (hl : Okc t x p) (hq : q.length = 8) (hx : a.eval y = .pointer (some ⟨g, 16, none⟩)) (hy : a.eval z = Av q)
    (hn : ∀ w', Frm w0 w' (L.set i (g, T, (cc t q p k).toArray)) → wpList Tryz.prog ops Q rest (a.put o.dst undef) w') : wpList Tryz.prog ops Q (o :: rest) a w := by
  have hpre : (b8s t).length = 16 := by simp [hl.1]
  refine wpList_store_seg hgd _ y z ho g 16 8 T (b8s t) (b8s p ++ [.int .i64 k]) q x hx hy (h.get i hi).ccX hpre info_span hq hl.2.1 (fun w' hw _ => hn w' ?_)
  have := h.setSeg i (pre := b8s t) (mid := b8s x) (post := b8s p ++ [.int .i64 k]) (by rw [← cc_span]; exact hi) (b8s q) (by simp [hq, hl.2.1])
  rw [hpre, ← cc_span, ← hw] at this
  exact this
def flagR (k : Int) (fl : List UInt8) : Int × Int := if (fl == [49]) = true then (3, 0) else if (fl == []) = true then (k, 0) else if (fl == [48]) = true then (k, 0) else (0, 3)
theorem sampR_eq (sa fl : List UInt8) : sampR sa fl = if (sa == [48]) = true then flagR 1 fl else if (sa == sfalse) = true then flagR 1 fl else if (sa == [49]) = true then flagR 2 fl else if (sa == strue) = true then flagR 2 fl else if (sa == []) = true then flagR 0 fl else (0, 3) := by
  unfold sampR flagR
  simp only [beq_iff_eq]
  by_cases h0 : sa = [48]
  · subst h0; simp [sfalse, strue]
    by_cases f1 : fl = [49] <;> simp [f1]
    by_cases f2 : fl = [] <;> simp [f2]
  · by_cases h1 : sa = sfalse
    · subst h1; simp [sfalse, strue]
      by_cases f1 : fl = [49] <;> simp [f1]
      by_cases f2 : fl = [] <;> simp [f2]
    · by_cases h2 : sa = [49]
      · subst h2; simp [sfalse, strue]
        by_cases f1 : fl = [49] <;> simp [f1]
        by_cases f2 : fl = [] <;> simp [f2]
      · by_cases h3 : sa = strue
        · subst h3; simp [sfalse, strue]
          by_cases f1 : fl = [49] <;> simp [f1]
          by_cases f2 : fl = [] <;> simp [f2]
        · by_cases h4 : sa = []
          · subst h4; simp [sfalse, strue]
            by_cases f1 : fl = [49] <;> simp [f1]
            by_cases f2 : fl = [] <;> simp [f2]
          · simp [h0, h1, h2, h3, h4]
set_option maxRecDepth 100000 in
set_option maxHeartbeats 4000000 in
theorem rmulti_half (m : Mu) (w : World) (hh : halfM m) (hm : shortM m) :
    Calls Tryz.prog 32 #[Mv m] w fun e w' => e = .returned (cxOut (multiR m)) ∧ Below w.heap.size w w' := by
  have HO := hid (show multiR m = cxBad 9 from if_pos hh)
  obtain ⟨tr, sp, pa, sa, fl⟩ := m
  obtain ⟨W1, hW⟩ : ∃ W1, (w.alloc (.cells #[Sv tr, Sv sp, Sv pa, Sv sa, Sv fl] 77)).alloc (.cells #[.int .u8 0, .int .u8 0, .int .u8 0, .int .u8 0, .int .u8 0, .int .u8 0, .int .u8 0, .int .u8 0, .int .u8 0, .int .u8 0, .int .u8 0, .int .u8 0, .int .u8 0, .int .u8 0, .int .u8 0, .int .u8 0, .int .u8 0, .int .u8 0, .int .u8 0, .int .u8 0, .int .u8 0, .int .u8 0, .int .u8 0, .int .u8 0, .int .u8 0, .int .u8 0, .int .u8 0, .int .u8 0, .int .u8 0, .int .u8 0, .int .u8 0, .int .u8 0, .int .i64 0] 31) = W1 := ⟨_, rfl⟩
  have hF : Frm w W1 [(w.heap.size, 77, mc (tr, sp, pa, sa, fl)), (w.heap.size + 1, 31, (cc (zb 16) (zb 8) (zb 8) 0).toArray)] := hW ▸ ((Frm.start w).new 77 #[Sv tr, Sv sp, Sv pa, Sv sa, Sv fl] rfl).new0 31 (n := w.heap.size + 1) (by simp)
  have HF := hid hF
  have HW := hid hW
  obtain ⟨m0, m1, m2, m3, m4⟩ := hF.mcells 0 rfl
  simp only at m0 m1 m2 m3 m4
  clear hF hW
  obtain ⟨s1, s2, s3⟩ := hm
  simp only at s1 s2 s3
  have s4 : ¬ (9223372036854775807 < tr.length + sp.length) := by omega
  have s5 : ¬ (9223372036854775807 < tr.length + sp.length + pa.length) := by omega
  unfold Mv
  simp only
  by_cases h1 : tr = []
  · subst h1
    by_cases h2 : sp = []
    · subst h2
      have h3 := iE (l := pa) (fun e => hh.2 ⟨rfl, rfl, e⟩)
      clear hh s4 s5
      go_enter Tryz.func32, Tryz.ntmps32
      go_upto_region 1 with fail
      rw [HW.out]
      go_wp2_with (first
        | (refine at_store 31 (by rfl) ?_; refine wpList_putCv HF.out 1 (t := zb 16) (x := zb 8) (p := zb 8) (k := 0) rfl rfl rfl okc_zero okc_zero rfl rfl ?_; intro w9 h9; have HF9 := hid h9; clear h9))
      exact bodyPost_ret (results_cv2 rfl _ _ _ _ _ _ _ _ _ rfl (HF9.out.get 1 rfl) Tryz.underlying31 rfl info_ctx okc_zero) rfl ⟨by rw [HO.out]; rfl, HF9.out.bel⟩
    · obtain ⟨b, r, rfl⟩ : ∃ b r, sp = b :: r := by cases sp with | nil => exact absurd rfl h2 | cons b r => exact ⟨b, r, rfl⟩
      clear hh h2
      go_enter Tryz.func32, Tryz.ntmps32
      go_upto_region 1 with fail
      rw [HW.out]
      go_wp2_with (first
        | (refine at_store 31 (by rfl) ?_; refine wpList_putCv HF.out 1 (t := zb 16) (x := zb 8) (p := zb 8) (k := 0) rfl rfl rfl okc_zero okc_zero rfl rfl ?_; intro w9 h9; have HF9 := hid h9; clear h9))
      exact bodyPost_ret (results_cv2 rfl _ _ _ _ _ _ _ _ _ rfl (HF9.out.get 1 rfl) Tryz.underlying31 rfl info_ctx okc_zero) rfl ⟨by rw [HO.out]; rfl, HF9.out.bel⟩
  · have h2 : sp = [] := hh.1.resolve_left h1
    subst h2
    obtain ⟨b, r, rfl⟩ : ∃ b r, tr = b :: r := by cases tr with | nil => exact absurd rfl h1 | cons b r => exact ⟨b, r, rfl⟩
    clear hh h1
    go_enter Tryz.func32, Tryz.ntmps32
    go_upto_region 1 with fail
    rw [HW.out]
    go_wp2_with (first
      | (refine at_store 31 (by rfl) ?_; refine wpList_putCv HF.out 1 (t := zb 16) (x := zb 8) (p := zb 8) (k := 0) rfl rfl rfl okc_zero okc_zero rfl rfl ?_; intro w9 h9; have HF9 := hid h9; clear h9))
    exact bodyPost_ret (results_cv2 rfl _ _ _ _ _ _ _ _ _ rfl (HF9.out.get 1 rfl) Tryz.underlying31 rfl info_ctx okc_zero) rfl ⟨by rw [HO.out]; rfl, HF9.out.bel⟩
end Go.Proofs.YtgfdmdikiickpaaGreatDoor
