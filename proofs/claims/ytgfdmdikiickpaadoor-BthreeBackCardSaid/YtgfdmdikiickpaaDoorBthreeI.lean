/-
  Walks of package b3: TextMulti.
-/
import Derived.Test.YtgfdmdikiickpaaDoorBthreeH
namespace Go.Proofs.YtgfdmdikiickpaaDoor
open Go.RowKit

theorem wpList_putM {ops : Array Oper} {rest : List Oper} {o : Oper} {a : Act} {w w0 : World} {Q : Exit → Act → World → Prop} {L : List Bk} (h : Frm w0 w L) (i : Nat) (m m' : Mu) {g : Nat} {T : TypeId} {y z : Operand} (hgd : o.guard = none) (ho : o.op = .store 34 y z)
    (hi : L[i]? = some (g, T, mc m)) (hx : a.eval y = .pointer (some ⟨g, 0, none⟩)) (hy : a.eval z = Mv m')
    (hn : ∀ w', Frm w0 w' (L.set i (g, T, mc m')) → wpList Tryd.prog ops Q rest (a.put o.dst undef) w') : wpList Tryd.prog ops Q (o :: rest) a w :=
  wpList_store_row hgd _ y z ho g _ hx hy T _ (h.get i hi) (by rw [info_mul]; rfl) rfl (by simp [Array.all_eq_true, Sv, Value.oneCell']) (hn _ (h.setRow i hi _))
theorem wpList_putMs {ops : Array Oper} {rest : List Oper} {o : Oper} {a : Act} {w w0 : World} {Q : Exit → Act → World → Prop} {L : List Bk} (h : Frm w0 w L) (i : Nat) (m m' : Mu) (k : Nat) {g : Nat} {T : TypeId} {s : List UInt8} {y z : Operand} (hgd : o.guard = none) (ho : o.op = .store 9 y z)
    (hi : L[i]? = some (g, T, mc m)) (hx : a.eval y = .pointer (some ⟨g, k, none⟩)) (hy : a.eval z = Sv s) (hk : k < 5) (he : (mc m).setIfInBounds k (Sv s) = mc m')
    (hn : ∀ w', Frm w0 w' (L.set i (g, T, mc m')) → wpList Tryd.prog ops Q rest (a.put o.dst undef) w') : wpList Tryd.prog ops Q (o :: rest) a w :=
  wpList_putC h i hgd ho hi hx hy hk rfl rfl info_str (fun w' hw => hn w' (by rw [← he]; exact hw))
theorem results_mv1 {fn : Func} {p : Tmp} (h : fn.results = #[.cell p 34]) (tmps : Array Value) (w : World) (g : Nat) (T : TypeId) (m : Mu)
    (hp : tmps.getD p undef = .pointer (some ⟨g, 0, none⟩)) (hb : Blk w g T (mc m)) : (results fn tmps).run Tryd.prog w = .ok (Mv m) w :=
  results_cell_row h tmps w g T (mc m) (0, 0) _ hp hb Tryd.underlying34 rfl (by rw [info_mul]; rfl)
set_option maxRecDepth 100000 in
set_option maxHeartbeats 4000000 in
theorem btextmulti_no (t x p : List UInt8) (k : Int) (w : World) (hl : Okc t x p) (hm : mayC t x p k = false) :
    Calls Tryd.prog 16 #[Cv t x p k] w fun e w' => e = .returned (Mv (multiT t x p k)) ∧ Below w.heap.size w w' := by
  have HF := hid (((Frm.start w).new 29 (cc t x p k).toArray rfl).new 34 (mc muNone) (n := w.heap.size + 1) (by simp))
  have HL := hid hl
  have hmay := fun u => bmay_any t x p k u hl
  have HO := hid (show multiT t x p k = muNone by unfold multiT; rw [if_neg (by rw [hm]; simp)])
  rw [hm] at hmay
  clear hm hl
  go_enter Tryd.func16, Tryd.ntmps16
  go_wp2_with (first
    | (refine wpList_loadE rfl rfl (HF.out.loadCv 0 rfl HL.out) rfl ?_)
    | (go_at_call 46; refine (hmay _).mono ?_; rintro e w1 ⟨rfl, hb1⟩; have HF1 := hid ((HF.out.call hb1).new 34 (mc muNone) rfl); clear hb1)
    | (refine wpList_loadE rfl rfl (HF1.out.loadMv (m := muNone) 2 rfl) rfl ?_)
    | (refine wpList_putM HF1.out 1 muNone muNone rfl rfl rfl rfl rfl ?_; intro w9 h9; have HF9 := hid h9; clear h9))
  exact bodyPost_ret (results_mv1 rfl _ _ _ _ muNone rfl (HF9.out.get 1 rfl)) rfl ⟨by rw [HO.out], HF9.out.bel⟩
set_option maxRecDepth 100000 in
set_option maxHeartbeats 4000000 in
theorem btextmulti_bare (t x p : List UInt8) (k : Int) (w : World) (hl : Okc t x p) (hm : mayC t x p k = true) (hn : named t = false) :
    Calls Tryd.prog 16 #[Cv t x p k] w fun e w' => e = .returned (Mv (multiT t x p k)) ∧ Below w.heap.size w w' := by
  have HF := hid (((Frm.start w).new 29 (cc t x p k).toArray rfl).new 34 (mc muNone) (n := w.heap.size + 1) (by simp))
  have HL := hid hl
  have hmay := fun u => bmay_any t x p k u hl
  have ht : t = zb 16 := Classical.byContradiction fun q => by rw [named_t.2 q] at hn; cases hn
  have hp : p = zb 8 := (mayC_of hm).2.2.2 ht
  have eq3 := fun u => run_neq_z8 u p hl.2.2
  rw [show (p == zb 8) = true by rw [hp]; simp] at eq3
  have HO := hid (show multiT t x p k = ([], [], [], if k = 3 then [] else letterS k, if k = 3 then [49] else []) by unfold multiT; rw [if_pos hm, if_pos ht, if_pos ht]; unfold within; rw [if_pos hp])
  have hlet := fun u => bletter_any k u
  generalize letterS k = K at HO hlet
  rw [hm, hn] at hmay
  clear hm hl hn ht hp
  go_enter Tryd.func16, Tryd.ntmps16
  go_wp2_with (first
    | (refine wpList_loadE rfl rfl (HF.out.loadCv 0 rfl HL.out) rfl ?_)
    | (go_at_call 46; refine (hmay _).mono ?_; rintro e w1 ⟨rfl, hb1⟩; have HF1 := hid ((HF.out.call hb1).new 34 (mc muNone) rfl); clear hb1)
    | (refine wpList_loadE rfl rfl (HF1.out.loadP 0 rfl HL.out) rfl ?_)
    | (refine wpList_loadE rfl rfl (HF1.out.loadK 0 rfl HL.out) rfl ?_)
    | (refine wpList_putMs HF1.out 2 muNone ([], [], [], [], [49]) 4 rfl rfl rfl rfl rfl (by decide) rfl ?_; intro w3 h3; have HF3 := hid h3; clear h3)
    | (refine wpList_loadE rfl rfl (HF3.out.loadMv (m := ([], [], [], [], [49])) 2 rfl) rfl ?_)
    | (refine wpList_putM HF3.out 1 muNone ([], [], [], [], [49]) rfl rfl rfl rfl rfl ?_; intro w9 h9; have HF9 := hid h9; clear h9)
    | (go_at_call 47; refine (hlet _).mono ?_; rintro e w4 ⟨rfl, hw4⟩; have HF4 := hid (HF1.out.call (w' := w4) (by rw [hw4]; exact Below.refl _ _)); clear hw4)
    | (refine wpList_putMs HF4.out 2 muNone ([], [], [], K, []) 3 rfl rfl rfl rfl rfl (by decide) rfl ?_; intro w5 h5; have HF5 := hid h5; clear h5)
    | (refine wpList_loadE rfl rfl (HF5.out.loadMv (m := ([], [], [], K, [])) 2 rfl) rfl ?_)
    | (refine wpList_putM HF5.out 1 muNone ([], [], [], K, []) rfl rfl rfl rfl rfl ?_; intro w9 h9; have HF9 := hid h9; clear h9))
  · have q : k = 3 := beqi_yes (by assumption)
    exact bodyPost_ret (results_mv1 rfl _ _ _ _ ([], [], [], [], [49]) rfl (HF9.out.get 1 rfl)) rfl ⟨by rw [HO.out, if_pos q, if_pos q], HF9.out.bel⟩
  · have q : k ≠ 3 := beqi_no (by assumption)
    exact bodyPost_ret (results_mv1 rfl _ _ _ _ ([], [], [], K, []) rfl (HF9.out.get 1 rfl)) rfl ⟨by rw [HO.out, if_neg q, if_neg q], HF9.out.bel⟩
set_option maxRecDepth 100000 in
set_option maxHeartbeats 4000000 in
theorem btextmulti_named (t x p : List UInt8) (k : Int) (w : World) (hl : Okc t x p) (hm : mayC t x p k = true) (hn : named t = true) :
    Calls Tryd.prog 16 #[Cv t x p k] w fun e w' => e = .returned (Mv (multiT t x p k)) ∧ Below w.heap.size w w' := by
  have HF := hid (((Frm.start w).new 29 (cc t x p k).toArray rfl).new 34 (mc muNone) (n := w.heap.size + 1) (by simp))
  have HL := hid hl
  have hmay := fun u => bmay_any t x p k u hl
  have htt := fun u => tracetext_any t u hl.1
  have hxt := fun u => spantext_any x u hl.2.1
  have hpt := fun u => spantext_any p u hl.2.2
  have eq3 := fun u => run_neq_z8 u p hl.2.2
  have HO := hid (show multiT t x p k = (hexEnc t, hexEnc x, if (p == zb 8) = true then [] else hexEnc p, if k = 3 then [] else letterS k, if k = 3 then [49] else []) by
    unfold multiT; rw [if_pos hm, if_neg (named_t.1 hn), if_neg (named_t.1 hn)]; unfold within; simp)
  have hlet := fun u => bletter_any k u
  generalize letterS k = K at HO hlet
  generalize hexEnc t = E at HO htt
  generalize hexEnc x = D at HO hxt
  generalize hexEnc p = G at HO hpt
  generalize (p == zb 8) = C at HO eq3
  rw [hm, hn] at hmay
  clear hm hl hn
  go_enter Tryd.func16, Tryd.ntmps16
  go_upto_region 6 with (first
    | (refine wpList_loadE rfl rfl (HF.out.loadCv 0 rfl HL.out) rfl ?_)
    | (go_at_call 46; refine (hmay _).mono ?_; rintro e w1 ⟨rfl, hb1⟩; have HF1 := hid ((HF.out.call hb1).new 34 (mc muNone) rfl); clear hb1))
  refine region_token_tail (fun _ u => Frm w u [(w.heap.size, 29, (cc t x p k).toArray), (w.heap.size + 1, 34, mc muNone), (w1.heap.size, 34, mc muNone)]) 0 undef 7 (by kernel_rfl) (by kernel_rfl) (HF1.out.drew) ?_
  repeat (first
    | (refine tok_off (by decide) (fun _ => by rfl) ?_; try simp only [Act.put, List.setIfInBounds_toArray, List.set_cons_zero, List.set_cons_succ])
    | (refine tok_pure (v := ?_) (by decide) (fun _ => by rfl) ?_ ?_; rotate_left; (focus (intro x u; simp only [fam, Act.put, List.setIfInBounds_toArray, List.set_cons_zero, List.set_cons_succ]; go_simp; with_reducible rfl)); try simp only [Act.put, List.setIfInBounds_toArray, List.set_cons_zero, List.set_cons_succ]))
  refine tok_load 25 (.tmp 15) rfl (by decide) (fun _ => by rfl) (fun _ u h => h.loadT 0 rfl HL.out) ?_
  try simp only [Act.put, List.setIfInBounds_toArray, List.set_cons_zero, List.set_cons_succ]
  refine tok_call (fun _ u h => frm_call h (htt u)) (by decide) (fun _ => by rfl) (fun _ u => by simp only [fam]; go_simp) ?_
  try simp only [Act.put, List.setIfInBounds_toArray, List.set_cons_zero, List.set_cons_succ]
  repeat (first
    | (refine tok_off (by decide) (fun _ => by rfl) ?_; try simp only [Act.put, List.setIfInBounds_toArray, List.set_cons_zero, List.set_cons_succ])
    | (refine tok_pure (v := ?_) (by decide) (fun _ => by rfl) ?_ ?_; rotate_left; (focus (intro x u; simp only [fam, Act.put, List.setIfInBounds_toArray, List.set_cons_zero, List.set_cons_succ]; go_simp; with_reducible rfl)); try simp only [Act.put, List.setIfInBounds_toArray, List.set_cons_zero, List.set_cons_succ]))
  refine tok_load 27 (.tmp 18) rfl (by decide) (fun _ => by rfl) (fun _ u h => h.loadX 0 rfl HL.out) ?_
  try simp only [Act.put, List.setIfInBounds_toArray, List.set_cons_zero, List.set_cons_succ]
  refine tok_call (fun _ u h => frm_call h (hxt u)) (by decide) (fun _ => by rfl) (fun _ u => by simp only [fam]; go_simp) ?_
  try simp only [Act.put, List.setIfInBounds_toArray, List.set_cons_zero, List.set_cons_succ]
  repeat (first
    | (refine tok_off (by decide) (fun _ => by rfl) ?_; try simp only [Act.put, List.setIfInBounds_toArray, List.set_cons_zero, List.set_cons_succ])
    | (refine tok_pure (v := ?_) (by decide) (fun _ => by rfl) ?_ ?_; rotate_left; (focus (intro x u; simp only [fam, Act.put, List.setIfInBounds_toArray, List.set_cons_zero, List.set_cons_succ]; go_simp; with_reducible rfl)); try simp only [Act.put, List.setIfInBounds_toArray, List.set_cons_zero, List.set_cons_succ]))
  refine tok_nil (fun _ w2 h2 => ?_)
  simp only [fam]
  have HF2 := hid h2
  clear h2
  simp only [List.drop_succ_cons, List.drop_zero]
  cases C with
  | true =>
    go_wp2_with (first
      | (refine wpList_putMs HF2.out 2 muNone (E, [], [], [], []) 0 rfl rfl rfl rfl rfl (by decide) rfl ?_; intro w3 h3; have HF3 := hid h3; clear h3)
      | (refine wpList_putMs HF3.out 2 (E, [], [], [], []) (E, D, [], [], []) 1 rfl rfl rfl rfl rfl (by decide) rfl ?_; intro w4 h4; have HF4 := hid h4; clear h4)
      | (refine wpList_loadE rfl rfl (HF4.out.loadP 0 rfl HL.out) rfl ?_)
      | (refine wpList_loadE rfl rfl (HF4.out.loadK 0 rfl HL.out) rfl ?_)
      | (refine wpList_putMs HF4.out 2 (E, D, [], [], []) (E, D, [], [], [49]) 4 rfl rfl rfl rfl rfl (by decide) rfl ?_; intro w7 h7; have HF7 := hid h7; clear h7)
      | (refine wpList_loadE rfl rfl (HF7.out.loadMv (m := (E, D, [], [], [49])) 2 rfl) rfl ?_)
      | (refine wpList_putM HF7.out 1 muNone (E, D, [], [], [49]) rfl rfl rfl rfl rfl ?_; intro w9 h9; have HF9 := hid h9; clear h9)
      | (go_at_call 47; refine (hlet _).mono ?_; rintro e w8 ⟨rfl, hw8⟩; have HF8 := hid (HF4.out.call (w' := w8) (by rw [hw8]; exact Below.refl _ _)); clear hw8)
      | (refine wpList_putMs HF8.out 2 (E, D, [], [], []) (E, D, [], K, []) 3 rfl rfl rfl rfl rfl (by decide) rfl ?_; intro wa ha; have HFa := hid ha; clear ha)
      | (refine wpList_loadE rfl rfl (HFa.out.loadMv (m := (E, D, [], K, [])) 2 rfl) rfl ?_)
      | (refine wpList_putM HFa.out 1 muNone (E, D, [], K, []) rfl rfl rfl rfl rfl ?_; intro w9 h9; have HF9 := hid h9; clear h9))
    · have q : k = 3 := beqi_yes (by assumption)
      exact bodyPost_ret (results_mv1 rfl _ _ _ _ (E, D, [], [], [49]) rfl (HF9.out.get 1 rfl)) rfl ⟨by rw [HO.out, if_pos q, if_pos q]; rfl, HF9.out.bel⟩
    · have q : k ≠ 3 := beqi_no (by assumption)
      exact bodyPost_ret (results_mv1 rfl _ _ _ _ (E, D, [], K, []) rfl (HF9.out.get 1 rfl)) rfl ⟨by rw [HO.out, if_neg q, if_neg q]; rfl, HF9.out.bel⟩
  | false =>
    go_wp2_with (first
      | (refine wpList_putMs HF2.out 2 muNone (E, [], [], [], []) 0 rfl rfl rfl rfl rfl (by decide) rfl ?_; intro w3 h3; have HF3 := hid h3; clear h3)
      | (refine wpList_putMs HF3.out 2 (E, [], [], [], []) (E, D, [], [], []) 1 rfl rfl rfl rfl rfl (by decide) rfl ?_; intro w4 h4; have HF4 := hid h4; clear h4)
      | (refine wpList_loadE rfl rfl (HF4.out.loadP 0 rfl HL.out) rfl ?_)
      | (go_at_call 49; refine (hpt _).mono ?_; rintro e w5 ⟨rfl, hb5⟩; have HF5 := hid (HF4.out.call hb5); clear hb5)
      | (refine wpList_putMs HF5.out 2 (E, D, [], [], []) (E, D, G, [], []) 2 rfl rfl rfl rfl rfl (by decide) rfl ?_; intro w6 h6; have HF6 := hid h6; clear h6)
      | (refine wpList_loadE rfl rfl (HF6.out.loadK 0 rfl HL.out) rfl ?_)
      | (refine wpList_putMs HF6.out 2 (E, D, G, [], []) (E, D, G, [], [49]) 4 rfl rfl rfl rfl rfl (by decide) rfl ?_; intro w7 h7; have HF7 := hid h7; clear h7)
      | (refine wpList_loadE rfl rfl (HF7.out.loadMv (m := (E, D, G, [], [49])) 2 rfl) rfl ?_)
      | (refine wpList_putM HF7.out 1 muNone (E, D, G, [], [49]) rfl rfl rfl rfl rfl ?_; intro w9 h9; have HF9 := hid h9; clear h9)
      | (go_at_call 47; refine (hlet _).mono ?_; rintro e w8 ⟨rfl, hw8⟩; have HF8 := hid (HF6.out.call (w' := w8) (by rw [hw8]; exact Below.refl _ _)); clear hw8)
      | (refine wpList_putMs HF8.out 2 (E, D, G, [], []) (E, D, G, K, []) 3 rfl rfl rfl rfl rfl (by decide) rfl ?_; intro wa ha; have HFa := hid ha; clear ha)
      | (refine wpList_loadE rfl rfl (HFa.out.loadMv (m := (E, D, G, K, [])) 2 rfl) rfl ?_)
      | (refine wpList_putM HFa.out 1 muNone (E, D, G, K, []) rfl rfl rfl rfl rfl ?_; intro w9 h9; have HF9 := hid h9; clear h9))
    · have q : k = 3 := beqi_yes (by assumption)
      exact bodyPost_ret (results_mv1 rfl _ _ _ _ (E, D, G, [], [49]) rfl (HF9.out.get 1 rfl)) rfl ⟨by rw [HO.out, if_pos q, if_pos q]; rfl, HF9.out.bel⟩
    · have q : k ≠ 3 := beqi_no (by assumption)
      exact bodyPost_ret (results_mv1 rfl _ _ _ _ (E, D, G, K, []) rfl (HF9.out.get 1 rfl)) rfl ⟨by rw [HO.out, if_neg q, if_neg q]; rfl, HF9.out.bel⟩
theorem btextmulti_any (t x p : List UInt8) (k : Int) (w : World) (hl : Okc t x p) :
    Calls Tryd.prog 16 #[Cv t x p k] w fun e w' => e = .returned (Mv (multiT t x p k)) ∧ Below w.heap.size w w' := by
  cases hm : mayC t x p k with
  | false => exact btextmulti_no t x p k w hl hm
  | true =>
    cases hn : named t with
    | false => exact btextmulti_bare t x p k w hl hm hn
    | true => exact btextmulti_named t x p k w hl hm hn
end Go.Proofs.YtgfdmdikiickpaaDoor
