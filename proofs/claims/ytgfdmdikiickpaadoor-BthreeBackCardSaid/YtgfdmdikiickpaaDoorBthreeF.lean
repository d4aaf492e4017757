/-
  Walks of package b3: TextOne.
-/
import Derived.Test.YtgfdmdikiickpaaDoorBthreeD
namespace Go.Proofs.YtgfdmdikiickpaaDoor
open Go.RowKit

theorem named_t {t : List UInt8} : named t = true ↔ t ≠ zb 16 := by simp [named]
theorem frm_call {w0 u : World} {L : List Bk} (s : Frm w0 u L) {f : FuncId} {args : Array Value} {v : Value} (k : Calls Tryd.prog f args u fun e u' => e = .returned v ∧ Below u.heap.size u u') :
    Calls Tryd.prog f args u fun e u' => e = .returned v ∧ Frm w0 u' L := k.mono fun _ _ ⟨he, hb⟩ => ⟨he, s.call hb⟩
theorem letter_len (k : Int) : (letterS k).length ≤ 1 := letterS_len k
set_option maxRecDepth 100000 in
set_option maxHeartbeats 4000000 in
theorem btextone_any (t x p : List UInt8) (k : Int) (w : World) (hl : Okc t x p) :
    Calls Tryd.prog 14 #[Cv t x p k] w fun e w' => e = .returned (Sv (oneT t x p k)) ∧ Below w.heap.size w w' := by
  have HF := hid ((Frm.start w).new 29 (cc t x p k).toArray rfl)
  have HL := hid hl
  have eq3 := fun u => run_neq_z8 u p hl.2.2
  obtain ⟨E, hE⟩ : ∃ E, hexEnc t = E := ⟨_, rfl⟩
  obtain ⟨D, hD⟩ : ∃ D, hexEnc x = D := ⟨_, rfl⟩
  obtain ⟨G, hG⟩ : ∃ G, hexEnc p = G := ⟨_, rfl⟩
  have le : E.length = 32 := by rw [← hE, hexEnc_length, hl.1]
  have ld : D.length = 16 := by rw [← hD, hexEnc_length, hl.2.1]
  have lg : G.length = 16 := by rw [← hG, hexEnc_length, hl.2.2]
  have hmay := fun u => bmay_any t x p k u hl
  have htt := fun u => tracetext_any t u hl.1
  have hxt := fun u => spantext_any x u hl.2.1
  have hpt := fun u => spantext_any p u hl.2.2
  rw [hE] at htt
  rw [hD] at hxt
  rw [hG] at hpt
  have HO := hid (show oneT t x p k = if mayC t x p k = true then (if named t = true then E ++ [45] ++ D ++ (if k = 0 then [] else [45] ++ letterS k ++ (if (p == zb 8) = true then [] else [45] ++ G)) else letterS k) else [] by
    unfold oneT
    rw [hE, hD, hG]
    by_cases m : mayC t x p k = true
    · rw [if_pos m, if_pos m]
      by_cases q : t = zb 16
      · rw [if_pos q, if_neg (by rw [named_t]; exact fun h => h q)]
      · rw [if_neg q, if_pos (named_t.2 q)]
        simp
    · rw [if_neg m, if_neg m])
  have l1 := letterS_len k
  obtain ⟨K, hK⟩ : ∃ K, letterS k = K := ⟨_, rfl⟩
  have hlet := fun u => bletter_any k u
  rw [hK] at hlet HO l1
  clear hE hD hG hl hK
  cases hm : mayC t x p k with
  | false =>
    rw [hm, if_neg (by simp)] at HO
    rw [hm] at hmay
    clear hm
    go_enter Tryd.func14, Tryd.ntmps14
    go_wp2_with (first
      | (refine wpList_loadE rfl rfl (HF.out.loadCv 0 rfl HL.out) rfl ?_)
      | (go_at_call 46; refine (hmay _).mono ?_; rintro e w1 ⟨rfl, hb1⟩; have HF1 := hid (HF.out.call hb1); clear hb1))
    go_ret
    exact ⟨by rw [HO.out]; rfl, HF1.out.bel⟩
  | true =>
    rw [hm, if_pos rfl] at HO
    rw [hm] at hmay
    clear hm
    cases hn : named t with
    | false =>
      rw [hn, if_neg (by simp)] at HO
      rw [hn] at hmay
      clear hn
      go_enter Tryd.func14, Tryd.ntmps14
      go_wp2_with (first
        | (refine wpList_loadE rfl rfl (HF.out.loadCv 0 rfl HL.out) rfl ?_)
        | (go_at_call 46; refine (hmay _).mono ?_; rintro e w1 ⟨rfl, hb1⟩; have HF1 := hid (HF.out.call hb1); have c32 := HF1.out.cellK 0 rfl HL.out; clear hb1)
        | (go_at_call 47; refine (hlet _).mono ?_; rintro e w2 ⟨rfl, hw2⟩; have HF2 := hid (HF1.out.call (w' := w2) (by rw [hw2]; exact Below.refl _ _)); clear hw2))
      go_ret
      exact ⟨by rw [HO.out]; rfl, HF2.out.bel⟩
    | true =>
      rw [hn, if_pos rfl] at HO
      rw [hn] at hmay
      clear hn
      generalize hC : (p == zb 8) = C at eq3 HO
      clear hC
      go_enter Tryd.func14, Tryd.ntmps14
      go_upto_region 6 with (first
        | (refine wpList_loadE rfl rfl (HF.out.loadCv 0 rfl HL.out) rfl ?_)
        | (go_at_call 46; refine (hmay _).mono ?_; rintro e w1 ⟨rfl, hb1⟩; have HF1 := hid (HF.out.call hb1); clear hb1))
      refine region_steady (fun u => Frm w u [(w.heap.size, 29, (cc t x p k).toArray)]) (by kernel_rfl) (by kernel_rfl) (HF1.out.drew) ?_
      repeat (first
        | (refine steady_off (by rfl) ?_; try simp only [Act.put, List.setIfInBounds_toArray, List.set_cons_zero, List.set_cons_succ])
        | (refine steady_pure (v := ?_) (by rfl) ?_ ?_; rotate_left; (focus (intro u; go_simp; with_reducible rfl)); try simp only [Act.put, List.setIfInBounds_toArray, List.set_cons_zero, List.set_cons_succ]))
      refine steady_load 25 (.tmp 18) rfl (by rfl) (fun u h => h.loadT 0 rfl HL.out) ?_
      try simp only [Act.put, List.setIfInBounds_toArray, List.set_cons_zero, List.set_cons_succ]
      refine steady_call (fun u h => frm_call h (htt u)) (by rfl) (fun u => by go_simp) ?_
      try simp only [Act.put, List.setIfInBounds_toArray, List.set_cons_zero, List.set_cons_succ]
      (refine steady_add _ _ _ _ rfl (by rfl) (by rfl) ?_ (by rfl) ?_; (focus (simp only [List.length_append, List.length_cons, List.length_nil, List.length_take, List.length_drop]; omega)); try simp only [Act.put, List.setIfInBounds_toArray, List.set_cons_zero, List.set_cons_succ])
      repeat (first
        | (refine steady_off (by rfl) ?_; try simp only [Act.put, List.setIfInBounds_toArray, List.set_cons_zero, List.set_cons_succ])
        | (refine steady_pure (v := ?_) (by rfl) ?_ ?_; rotate_left; (focus (intro u; go_simp; with_reducible rfl)); try simp only [Act.put, List.setIfInBounds_toArray, List.set_cons_zero, List.set_cons_succ]))
      refine steady_load 27 (.tmp 22) rfl (by rfl) (fun u h => h.loadX 0 rfl HL.out) ?_
      try simp only [Act.put, List.setIfInBounds_toArray, List.set_cons_zero, List.set_cons_succ]
      refine steady_call (fun u h => frm_call h (hxt u)) (by rfl) (fun u => by go_simp) ?_
      try simp only [Act.put, List.setIfInBounds_toArray, List.set_cons_zero, List.set_cons_succ]
      (refine steady_add _ _ _ _ rfl (by rfl) (by rfl) ?_ (by rfl) ?_; (focus (simp only [List.length_append, List.length_cons, List.length_nil, List.length_take, List.length_drop]; omega)); try simp only [Act.put, List.setIfInBounds_toArray, List.set_cons_zero, List.set_cons_succ])
      repeat (first
        | (refine steady_off (by rfl) ?_; try simp only [Act.put, List.setIfInBounds_toArray, List.set_cons_zero, List.set_cons_succ])
        | (refine steady_pure (v := ?_) (by rfl) ?_ ?_; rotate_left; (focus (intro u; go_simp; with_reducible rfl)); try simp only [Act.put, List.setIfInBounds_toArray, List.set_cons_zero, List.set_cons_succ]))
      refine steady_nil (fun w2 h2 => ?_)
      have HF2 := hid h2
      have c32 := h2.cellK 0 rfl HL.out
      clear h2
      cases C
      all_goals
        go_wp2_with (first
          | (go_at_call 47; refine (hlet _).mono ?_; rintro e w3 ⟨rfl, hw3⟩; have HF3 := hid (HF2.out.call (w' := w3) (by rw [hw3]; exact Below.refl _ _)); clear hw3)
          | (refine wpList_loadE rfl rfl (HF3.out.loadP 0 rfl HL.out) rfl ?_)
          | (go_at_call 49; refine (hpt _).mono ?_; rintro e w4 ⟨rfl, hb4⟩; have HF4 := hid (HF3.out.call hb4); clear hb4))
      · have q : k = 0 := by have := beqi_yes (a := k) (b := 0) (by assumption); exact this
        go_ret
        exact ⟨by rw [HO.out, if_pos q]; simp, HF2.out.bel⟩
      · have q : k ≠ 0 := beqi_no (by assumption)
        go_ret
        exact ⟨by rw [HO.out, if_neg q, if_neg (by simp)]; simp, HF4.out.bel⟩
      · have q : k = 0 := beqi_yes (by assumption)
        go_ret
        exact ⟨by rw [HO.out, if_pos q]; simp, HF2.out.bel⟩
      · have q : k ≠ 0 := beqi_no (by assumption)
        go_ret
        exact ⟨by rw [HO.out, if_neg q]; simp, HF3.out.bel⟩
end Go.Proofs.YtgfdmdikiickpaaDoor
