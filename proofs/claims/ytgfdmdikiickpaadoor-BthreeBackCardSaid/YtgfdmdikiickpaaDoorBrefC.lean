/-
  Walks of the reference of package b3: TextOne, TextMulti.
-/
import Derived.Test.YtgfdmdikiickpaaDoorBrefB
namespace Go.Proofs.YtgfdmdikiickpaaDoor
open Go.RowKit

theorem len_ne {l : List UInt8} {n : Nat} (h : l.length = n + 1) : l ≠ [] := by rintro rfl; cases h
set_option maxRecDepth 100000 in
set_option maxHeartbeats 4000000 in
theorem rtextone_any (t x p : List UInt8) (k : Int) (w : World) (hl : Okc t x p) :
    Calls Tryd.prog 15 #[Cv t x p k] w fun e w' => e = .returned (Sv (oneT t x p k)) ∧ Below w.heap.size w w' := by
  have HF := hid ((Frm.start w).new 29 (cc t x p k).toArray rfl)
  have HL := hid hl
  have hmay := fun u => rmayc_any t x p k u hl
  have hnam := fun u => rnames_any t x p k u hl
  have hwit := fun u => rwithin_any t x p k u hl
  have hlet := fun u => rletter_any k u
  cases hm : mayC t x p k with
  | false =>
    have HO := hid (show oneT t x p k = [] by unfold oneT; rw [if_neg (by rw [hm]; simp)])
    rw [hm] at hmay
    clear hm hl
    go_enter Tryd.func15, Tryd.ntmps15
    go_wp2_with (first
      | (refine wpList_loadE rfl rfl (HF.out.loadCv 0 rfl HL.out) rfl ?_)
      | (go_at_call 18; refine (hmay _).mono ?_; rintro e w1 ⟨rfl, hb1⟩; have HF1 := hid (HF.out.call hb1); clear hb1))
    go_ret
    exact ⟨by rw [HO.out]; rfl, HF1.out.bel⟩
  | true =>
    obtain ⟨k0, k3, _, _⟩ := mayC_of hm
    cases hn : named t with
    | false =>
      have HO := hid (show oneT t x p k = letterS k by
        unfold oneT
        rw [if_pos hm, if_pos (Classical.byContradiction fun q => by rw [named_t.2 q] at hn; cases hn)])
      rw [hm] at hmay
      rw [hn] at hnam
      simp only [Bool.false_eq_true, if_false] at hnam
      generalize letterS k = K at hlet HO
      clear hm hn hl hwit k0 k3
      go_enter Tryd.func15, Tryd.ntmps15
      go_wp2_with (first
        | (refine wpList_loadE rfl rfl (HF.out.loadCv 0 rfl HL.out) rfl ?_)
        | (go_at_call 18; refine (hmay _).mono ?_; rintro e w1 ⟨rfl, hb1⟩; have HF1 := hid (HF.out.call hb1); clear hb1)
        | (refine wpList_loadE rfl rfl (HF1.out.loadCv 0 rfl HL.out) rfl ?_)
        | (go_at_call 50; refine (hnam _).mono ?_; rintro e w2 ⟨rfl, hb2⟩; have HF2 := hid (HF1.out.call hb2); clear hb2)
        | (refine wpList_loadE rfl rfl (HF2.out.loadK 0 rfl HL.out) rfl ?_)
        | (go_at_call 51; refine (hlet _).mono ?_; rintro e w3 ⟨rfl, hw3⟩; have HF3 := hid (HF2.out.call (w' := w3) (by rw [hw3]; exact Below.refl _ _)); clear hw3))
      go_ret
      exact ⟨by rw [HO.out]; rfl, HF3.out.bel⟩
    | true =>
      have l1 := letterS_len k
      have l2 : (hexEnc t).length = 31 + 1 := by rw [hexEnc_length, hl.1]
      have l3 : (hexEnc x).length = 15 + 1 := by rw [hexEnc_length, hl.2.1]
      have e2 := iE (len_ne l2)
      have l4 : (within p).length ≤ 16 := by
        unfold within
        split
        · simp
        · rw [hexEnc_length, hl.2.2]; decide
      have HO := hid (show oneT t x p k = hexEnc t ++ [45] ++ hexEnc x ++ (if k = 0 then [] else [45] ++ letterS k ++ (if within p = [] then [] else [45] ++ within p)) by
        unfold oneT
        rw [if_pos hm, if_neg (named_t.1 hn)]
        have key : (if p = zb 8 then [] else [45] ++ hexEnc p) = (if within p = [] then [] else [45] ++ within p) := by
          unfold within
          by_cases q : p = zb 8
          · rw [if_pos q, if_pos q, if_pos rfl]
          · rw [if_neg q, if_neg q, if_neg (by rw [hexEnc_nil_iff]; rintro rfl; cases hl.2.2)]
        rw [key])
      rw [hm] at hmay
      rw [hn] at hnam
      simp only [if_true] at hnam
      generalize letterS k = K at hlet HO l1
      generalize hexEnc t = E at hnam HO l2 e2
      generalize hexEnc x = D at hnam HO l3
      generalize within p = G at hwit HO l4
      clear hm hn hl
      by_cases hg : G = []
      · subst hg
        go_enter Tryd.func15, Tryd.ntmps15
        go_wp2_with (first
          | (refine wpList_loadE rfl rfl (HF.out.loadCv 0 rfl HL.out) rfl ?_)
          | (go_at_call 18; refine (hmay _).mono ?_; rintro e w1 ⟨rfl, hb1⟩; have HF1 := hid (HF.out.call hb1); clear hb1)
          | (refine wpList_loadE rfl rfl (HF1.out.loadCv 0 rfl HL.out) rfl ?_)
          | (go_at_call 50; refine (hnam _).mono ?_; rintro e w2 ⟨rfl, hb2⟩; have HF2 := hid (HF1.out.call hb2); clear hb2)
          | (refine wpList_loadE rfl rfl (HF2.out.loadK 0 rfl HL.out) rfl ?_)
          | (go_at_call 51; refine (hlet _).mono ?_; rintro e w3 ⟨rfl, hw3⟩; have HF3 := hid (HF2.out.call (w' := w3) (by rw [hw3]; exact Below.refl _ _)); clear hw3)
          | (refine wpList_loadE rfl rfl (HF3.out.loadCv 0 rfl HL.out) rfl ?_)
          | (go_at_call 52; refine (hwit _).mono ?_; rintro e w4 ⟨rfl, hb4⟩; have HF4 := hid (HF3.out.call hb4); clear hb4))
        · have q : k ≠ 0 := by omega
          go_ret
          exact ⟨by rw [HO.out, if_neg q]; simp, HF4.out.bel⟩
        · have q : k = 0 := by omega
          go_ret
          exact ⟨by rw [HO.out, if_pos q]; simp, HF2.out.bel⟩
      · have eg := iE hg
        have HG := hid hg
        clear hg
        go_enter Tryd.func15, Tryd.ntmps15
        go_wp2_with (first
          | (refine wpList_loadE rfl rfl (HF.out.loadCv 0 rfl HL.out) rfl ?_)
          | (go_at_call 18; refine (hmay _).mono ?_; rintro e w1 ⟨rfl, hb1⟩; have HF1 := hid (HF.out.call hb1); clear hb1)
          | (refine wpList_loadE rfl rfl (HF1.out.loadCv 0 rfl HL.out) rfl ?_)
          | (go_at_call 50; refine (hnam _).mono ?_; rintro e w2 ⟨rfl, hb2⟩; have HF2 := hid (HF1.out.call hb2); clear hb2)
          | (refine wpList_loadE rfl rfl (HF2.out.loadK 0 rfl HL.out) rfl ?_)
          | (go_at_call 51; refine (hlet _).mono ?_; rintro e w3 ⟨rfl, hw3⟩; have HF3 := hid (HF2.out.call (w' := w3) (by rw [hw3]; exact Below.refl _ _)); clear hw3)
          | (refine wpList_loadE rfl rfl (HF3.out.loadCv 0 rfl HL.out) rfl ?_)
          | (go_at_call 52; refine (hwit _).mono ?_; rintro e w4 ⟨rfl, hb4⟩; have HF4 := hid (HF3.out.call hb4); clear hb4)
          | (refine wpList_loadE rfl rfl (HF4.out.loadCv 0 rfl HL.out) rfl ?_)
          | (go_at_call 52; refine (hwit _).mono ?_; rintro e w5 ⟨rfl, hb5⟩; have HF5 := hid (HF4.out.call hb5); clear hb5))
        · have q : k ≠ 0 := by omega
          go_ret
          exact ⟨by rw [HO.out, if_neg q, if_neg HG.out]; simp, HF5.out.bel⟩
        · have q : k = 0 := by omega
          go_ret
          exact ⟨by rw [HO.out, if_pos q]; simp, HF2.out.bel⟩
theorem info_nul : (Tryd.prog.info? 23).map (·.size) = some 5 := by kernel_rfl
theorem Frm.loadNv {w0 w : World} {L : List Bk} (h : Frm w0 w L) (i : Nat) {g : Nat} {T : TypeId} {m : Mu} (hi : L[i]? = some (g, T, mc m)) : (Instr.loadAt 23 (.pointer (some ⟨g, 0, none⟩))).run Tryd.prog w = .ok (Mv m) w :=
  run_loadAt_mid w g 0 23 (mc m).toList _ (fun j u hu => by rw [Nat.zero_add, (h.get i hi).cell j, ← hu]; simp) Tryd.underlying23 rfl (by rw [info_nul]; rfl)
theorem wpList_putN {ops : Array Oper} {rest : List Oper} {o : Oper} {a : Act} {w w0 : World} {Q : Exit → Act → World → Prop} {L : List Bk} (h : Frm w0 w L) (i : Nat) (m m' : Mu) {g : Nat} {T : TypeId} {y z : Operand} (hgd : o.guard = none) (ho : o.op = .store 23 y z)
    (hi : L[i]? = some (g, T, mc m)) (hx : a.eval y = .pointer (some ⟨g, 0, none⟩)) (hy : a.eval z = Mv m')
    (hn : ∀ w', Frm w0 w' (L.set i (g, T, mc m')) → wpList Tryd.prog ops Q rest (a.put o.dst undef) w') : wpList Tryd.prog ops Q (o :: rest) a w :=
  wpList_store_row hgd _ y z ho g _ hx hy T _ (h.get i hi) (by rw [info_nul]; rfl) rfl (by simp [Array.all_eq_true, Sv, Value.oneCell']) (hn _ (h.setRow i hi _))
theorem results_nv1 {fn : Func} {p : Tmp} (h : fn.results = #[.cell p 23]) (tmps : Array Value) (w : World) (g : Nat) (T : TypeId) (m : Mu)
    (hp : tmps.getD p undef = .pointer (some ⟨g, 0, none⟩)) (hb : Blk w g T (mc m)) : (results fn tmps).run Tryd.prog w = .ok (Mv m) w :=
  results_cell_row h tmps w g T (mc m) (0, 0) _ hp hb Tryd.underlying23 rfl (by rw [info_nul]; rfl)
theorem multiT_yes {t x p : List UInt8} {k : Int} (hm : mayC t x p k = true) : multiT t x p k = (if named t = true then hexEnc t else [], if named t = true then hexEnc x else [], within p, if k = 3 then [] else letterS k, if k = 3 then [49] else []) := by
  unfold multiT
  rw [if_pos hm]
  by_cases q : t = zb 16
  · have : named t = false := by simp [named, q]
    rw [if_pos q, if_pos q, this]
    rfl
  · rw [if_neg q, if_neg q, named_t.2 q]
    rfl
set_option maxRecDepth 100000 in
set_option maxHeartbeats 4000000 in
theorem rtextmulti_any (t x p : List UInt8) (k : Int) (w : World) (hl : Okc t x p) :
    Calls Tryd.prog 17 #[Cv t x p k] w fun e w' => e = .returned (Mv (multiT t x p k)) ∧ Below w.heap.size w w' := by
  have HF := hid (((Frm.start w).new 29 (cc t x p k).toArray rfl).new 23 (mc muNone) (n := w.heap.size + 1) (by simp))
  have HL := hid hl
  have hmay := fun u => rmayc_any t x p k u hl
  have hnam := fun u => rnames_any t x p k u hl
  have hwit := fun u => rwithin_any t x p k u hl
  have hlet := fun u => rletter_any k u
  cases hm : mayC t x p k with
  | false =>
    have HO := hid (show multiT t x p k = muNone by unfold multiT; rw [if_neg (by rw [hm]; simp)])
    rw [hm] at hmay
    clear hm hl
    go_enter Tryd.func17, Tryd.ntmps17
    go_wp2_with (first
      | (refine wpList_loadE rfl rfl (HF.out.loadCv 0 rfl HL.out) rfl ?_)
      | (go_at_call 18; refine (hmay _).mono ?_; rintro e w1 ⟨rfl, hb1⟩; have HF1 := hid (HF.out.call hb1); clear hb1)
      | (refine wpList_putN HF1.out 1 muNone muNone rfl rfl rfl rfl rfl ?_; intro w9 h9; have HF9 := hid h9; clear h9))
    exact bodyPost_ret (results_nv1 rfl _ _ _ _ muNone rfl (HF9.out.get 1 rfl)) rfl ⟨by rw [HO.out], HF9.out.bel⟩
  | true =>
    have HO := hid (multiT_yes hm)
    rw [hm] at hmay
    generalize letterS k = K at hlet HO
    generalize (if named t = true then hexEnc t else []) = E at hnam HO
    generalize (if named t = true then hexEnc x else []) = D at hnam HO
    generalize within p = G at hwit HO
    clear hm hl
    go_enter Tryd.func17, Tryd.ntmps17
    go_wp2_with (first
      | (refine wpList_loadE rfl rfl (HF.out.loadCv 0 rfl HL.out) rfl ?_)
      | (go_at_call 18; refine (hmay _).mono ?_; rintro e w1 ⟨rfl, hb1⟩; have HF1 := hid (HF.out.call hb1); clear hb1)
      | (refine wpList_loadE rfl rfl (HF1.out.loadCv 0 rfl HL.out) rfl ?_)
      | (go_at_call 50; refine (hnam _).mono ?_; rintro e w2 ⟨rfl, hb2⟩; have HF2 := hid (HF1.out.call hb2); clear hb2)
      | (refine wpList_loadE rfl rfl (HF2.out.loadCv 0 rfl HL.out) rfl ?_)
      | (go_at_call 52; refine (hwit _).mono ?_; rintro e w4 ⟨rfl, hb4⟩; have HF4 := hid ((HF2.out.call hb4).new 23 (mc muNone) rfl); clear hb4)
      | (refine wpList_putN HF4.out 2 muNone (E, D, G, [], []) rfl rfl rfl rfl rfl ?_; intro w5 h5; have HF5 := hid h5; clear h5)
      | (refine wpList_loadE rfl rfl (HF5.out.loadK 0 rfl HL.out) rfl ?_)
      | (refine wpList_putMs HF5.out 2 (E, D, G, [], []) (E, D, G, [], [49]) 4 rfl rfl rfl rfl rfl (by decide) rfl ?_; intro w7 h7; have HF7 := hid h7; clear h7)
      | (refine wpList_loadE rfl rfl (HF7.out.loadNv (m := (E, D, G, [], [49])) 2 rfl) rfl ?_)
      | (refine wpList_putN HF7.out 1 muNone (E, D, G, [], [49]) rfl rfl rfl rfl rfl ?_; intro w9 h9; have HF9 := hid h9; clear h9)
      | (go_at_call 51; refine (hlet _).mono ?_; rintro e w8 ⟨rfl, hw8⟩; have HF8 := hid (HF5.out.call (w' := w8) (by rw [hw8]; exact Below.refl _ _)); clear hw8)
      | (refine wpList_putMs HF8.out 2 (E, D, G, [], []) (E, D, G, K, []) 3 rfl rfl rfl rfl rfl (by decide) rfl ?_; intro wa ha; have HFa := hid ha; clear ha)
      | (refine wpList_loadE rfl rfl (HFa.out.loadNv (m := (E, D, G, K, [])) 2 rfl) rfl ?_)
      | (refine wpList_putN HFa.out 1 muNone (E, D, G, K, []) rfl rfl rfl rfl rfl ?_; intro w9 h9; have HF9 := hid h9; clear h9))
    · have q : k = 3 := beqi_yes (by assumption)
      exact bodyPost_ret (results_nv1 rfl _ _ _ _ (E, D, G, [], [49]) rfl (HF9.out.get 1 rfl)) rfl ⟨by rw [HO.out, if_pos q, if_pos q], HF9.out.bel⟩
    · have q : k ≠ 3 := beqi_no (by assumption)
      exact bodyPost_ret (results_nv1 rfl _ _ _ _ (E, D, G, K, []) rfl (HF9.out.get 1 rfl)) rfl ⟨by rw [HO.out, if_neg q, if_neg q], HF9.out.bel⟩
end Go.Proofs.YtgfdmdikiickpaaDoor
