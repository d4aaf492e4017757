/-
  The laws ParentBack and ParentKeeps.
-/
import Derived.Test.YtdjbgojdkaipfaaParentLaw
import Derived.Test.YtdjbgojdkaipfaaOpenHdr
namespace Go.Proofs.Ytdjbgojdkaipfaa
open Go.RowKit

theorem load_hdr {u : World} {g : Nat} {T ty : TypeId} {d : TypeDesc} {v f : Int} {t s : List UInt8} (hb : Blk u g T (hc v t s f).toArray) (hu : Try.prog.underlying ty = some d) (hd : d.isRow = true) (hi : (Try.prog.info? ty).map (·.size) = some 26) (ht : t.length = 16) (hs : s.length = 8) :
    (Instr.loadAt ty (.pointer (some ⟨g, 0, none⟩))).run Try.prog u = .ok (Hv v t s f) u :=
  run_loadAt_mid u g 0 ty (hc v t s f) d (fun j u hu => by rw [Nat.zero_add, hb.cell j, ← hu]; simp) hu hd (by rw [hi]; simp [hc, ht, hs])
theorem load_ctx {u : World} {g : Nat} {T ty : TypeId} {d : TypeDesc} {k : Int} {t s p : List UInt8} (hb : Blk u g T (cc t s p k).toArray) (hu : Try.prog.underlying ty = some d) (hd : d.isRow = true) (hi : (Try.prog.info? ty).map (·.size) = some 33) (ht : t.length = 16) (hs : s.length = 8) (hp : p.length = 8) :
    (Instr.loadAt ty (.pointer (some ⟨g, 0, none⟩))).run Try.prog u = .ok (Cv t s p k) u :=
  run_loadAt_mid u g 0 ty (cc t s p k) d (fun j u hu => by rw [Nat.zero_add, hb.cell j, ← hu]; simp) hu hd (by rw [hi]; simp [cc, ht, hs, hp])
theorem Blk.setV {w : World} {g : Nat} {T : TypeId} {v f : Int} {t s : List UInt8} (h : Blk w g T (hc v t s f).toArray) (k : Int) : Blk (w.setCell ⟨g, 0, none⟩ (.int .u8 k)) g T (hc k t s f).toArray := h.set_ 0 (.int .u8 k)
set_option maxRecDepth 100000 in
set_option maxHeartbeats 4000000 in
theorem parentBack_any (v f : Int) (t x : List UInt8) (w : World) (ht : t.length = 16) (hx : x.length = 8) (f0 : 0 ≤ f) (f1 : f ≤ 255) :
    Calls Try.prog 9 #[Hv v t x f] w fun e w' => e = .returned (.bool true) ∧ Below w.heap.size w w' := by
  have HT := hid ht
  have HX := hid hx
  obtain ⟨hA, hB, _, _, hbw⟩ := box2 (Below.refl ((w.alloc (.cells (hc v t x f).toArray 61)).alloc (.cells #[.int .u8 0, .int .u8 0, .int .u8 0, .int .u8 0, .int .u8 0, .int .u8 0, .int .u8 0, .int .u8 0, .int .u8 0, .int .u8 0, .int .u8 0, .int .u8 0, .int .u8 0, .int .u8 0, .int .u8 0, .int .u8 0, .int .u8 0, .int .u8 0, .int .u8 0, .int .u8 0, .int .u8 0, .int .u8 0, .int .u8 0, .int .u8 0, .int .u8 0, .int .u8 0] 58)).heap.size _)
  have HA := hid hA
  have HA0 := hid (Blk.new w 61 (hc v t x f).toArray)
  have HB : Hid (Blk _ (w.heap.size + 1) 58 (hc 0 (zb 16) (zb 8) 0).toArray) := hB
  have HBW := hid hbw
  have heq := fun u => run_eq_hv u 0 f 0 f t x t x ht hx ht hx
  simp only [hvq_self] at heq
  have hRT := readH_text t x f ht hx f0 f1
  have hTX : textH t x f = if mayB t x = true then [48, 48, 45] ++ hexEnc t ++ [45] ++ hexEnc x ++ [45] ++ hexEnc [bt f] else [] := rfl
  have hlen : (textH t x f).length ≤ 1000 := by
    rw [hTX]; split
    · simp only [List.length_append, hexEnc_length, List.length_cons, List.length_nil, ht, hx]; omega
    · simp
  clear hA hB hbw ht hx
  obtain ⟨S, hS⟩ : ∃ S, textH t x f = S := ⟨_, rfl⟩
  have ES := hid hS
  rw [hS] at hRT hTX hlen
  have HL := hid hlen
  clear hS hlen
  cases hm : mayB t x with
  | false =>
    have qS : S = [] := by rw [hTX, hm]; rfl
    subst qS
    have HM := hid hm
    clear hRT hTX hm heq
    go_enter Try.func9, Try.ntmps9
    go_wp2_with (first
      | (refine wpList_load_hv rfl 61 (.tmp 1) rfl w.heap.size _ _ v f t x rfl HA0.out Try.underlying61 rfl info_rhdr HT.out HX.out ?_)
      | (refine wpList_store_hv rfl 58 (.tmp 3) (.tmp 7) rfl (w.heap.size + 1) _ v f 0 0 t x (zb 16) (zb 8) rfl rfl HB.out info_hdr HT.out HX.out (zb_length _) (zb_length _) ?_; intro w2 hw2 hN2; have HN2 := hid hN2; have HA2 : Hid (Blk w2 w.heap.size 61 (hc v t x f).toArray) := (by rw [hw2]; exact setRow_far HA.out (by omega)); have HB2 : Hid (Below w.heap.size w w2) := (by rw [hw2]; exact setRow_below HBW.out (Nat.le_succ _) _); clear hw2 hN2)
      | (refine wpList_load_hv rfl 58 (.tmp 3) rfl (w.heap.size + 1) _ _ v f t x rfl HN2.out Try.underlying58 rfl info_hdr HT.out HX.out ?_))
    refine (ptext_any v f t x _ HT.out HX.out f0 f1).mono ?_; rintro e w3 ⟨rfl, hb3⟩
    rw [ES.out]
    have HA3 := hid (HA2.out.below hb3 HA2.out.lt)
    have HN3 := hid (HN2.out.below hb3 HN2.out.lt)
    have HB3 := hid (HB2.out.trans (hb3.mono HB2.out.size))
    clear hb3 HA2 HN2 HB2 HA HB HA0 HBW
    go_wp2_with fail
    refine region_steady (fun u => Below w3.heap.size w3 u) (by kernel_rfl) (by kernel_rfl) (ext_drew _) ?_
    repeat (first
      | (refine steady_off (by rfl) ?_; try simp only [Act.put, List.setIfInBounds_toArray, List.set_cons_zero, List.set_cons_succ])
      | (refine steady_pure (v := ?_) (by rfl) ?_ ?_; rotate_left; (focus (intro u; go_simp; with_reducible rfl)); try simp only [Act.put, List.setIfInBounds_toArray, List.set_cons_zero, List.set_cons_succ]))
    refine steady_load 61 (.tmp 1) rfl (by rfl) (fun u k => load_hdr (HA3.out.below k HA3.out.lt) Try.underlying61 rfl info_rhdr HT.out HX.out) ?_
    try simp only [Act.put, List.setIfInBounds_toArray, List.set_cons_zero, List.set_cons_succ]
    refine steady_call (fun u k => bel_call k (ES.out ▸ rtextH_any v f t x u HT.out HX.out f0 f1)) (by rfl) (fun u => by go_simp) ?_
    try simp only [Act.put, List.setIfInBounds_toArray, List.set_cons_zero, List.set_cons_succ]
    repeat (first
      | (refine steady_off (by rfl) ?_; try simp only [Act.put, List.setIfInBounds_toArray, List.set_cons_zero, List.set_cons_succ])
      | (refine steady_pure (v := ?_) (by rfl) ?_ ?_; rotate_left; (focus (intro u; go_simp; with_reducible rfl)); try simp only [Act.put, List.setIfInBounds_toArray, List.set_cons_zero, List.set_cons_succ]))
    refine steady_load 58 (.tmp 3) rfl (by rfl) (fun u k => load_hdr (HN3.out.below k HN3.out.lt) Try.underlying58 rfl info_hdr HT.out HX.out) ?_
    try simp only [Act.put, List.setIfInBounds_toArray, List.set_cons_zero, List.set_cons_succ]
    refine steady_call (fun u k => bel_call k (HM.out ▸ pmay_any v f t x u HT.out HX.out)) (by rfl) (fun u => by go_simp) ?_
    try simp only [Act.put, List.setIfInBounds_toArray, List.set_cons_zero, List.set_cons_succ]
    refine steady_load 61 (.tmp 1) rfl (by rfl) (fun u k => load_hdr (HA3.out.below k HA3.out.lt) Try.underlying61 rfl info_rhdr HT.out HX.out) ?_
    try simp only [Act.put, List.setIfInBounds_toArray, List.set_cons_zero, List.set_cons_succ]
    refine steady_call (fun u k => bel_call k (HM.out ▸ rmay_any v f t x u HT.out HX.out)) (by rfl) (fun u => by go_simp) ?_
    try simp only [Act.put, List.setIfInBounds_toArray, List.set_cons_zero, List.set_cons_succ]
    repeat (first
      | (refine steady_off (by rfl) ?_; try simp only [Act.put, List.setIfInBounds_toArray, List.set_cons_zero, List.set_cons_succ])
      | (refine steady_pure (v := ?_) (by rfl) ?_ ?_; rotate_left; (focus (intro u; go_simp; with_reducible rfl)); try simp only [Act.put, List.setIfInBounds_toArray, List.set_cons_zero, List.set_cons_succ]))
    refine steady_nil (fun w4 k4 => ?_)
    have HB4 := hid (HB3.out.trans (k4.mono HB3.out.size))
    clear k4
    go_wp2_with fail
    refine (pworks_any _).mono ?_; rintro e w5 ⟨rfl, hb5⟩
    have HB5 := hid (HB4.out.trans (hb5.mono HB4.out.size))
    clear hb5
    go_wp2_with fail
    go_ret
    exact ⟨rfl, HB5.out⟩
  | true =>
    have HRT := hid (show hdrOut (readH S) = .tuple #[Hv 0 t x f, .int .i64 0] by rw [hRT hm]; rfl)
    have qS : (S == ([] : List UInt8)) = false := by
      rw [hTX, if_pos hm]; rfl
    have HM := hid hm
    clear hRT hTX hm
    go_enter Try.func9, Try.ntmps9
    go_wp2_with (first
      | (refine wpList_load_hv rfl 61 (.tmp 1) rfl w.heap.size _ _ v f t x rfl HA0.out Try.underlying61 rfl info_rhdr HT.out HX.out ?_)
      | (refine wpList_store_hv rfl 58 (.tmp 3) (.tmp 7) rfl (w.heap.size + 1) _ v f 0 0 t x (zb 16) (zb 8) rfl rfl HB.out info_hdr HT.out HX.out (zb_length _) (zb_length _) ?_; intro w2 hw2 hN2; have HN2 := hid hN2; have HA2 : Hid (Blk w2 w.heap.size 61 (hc v t x f).toArray) := (by rw [hw2]; exact setRow_far HA.out (by omega)); have HB2 : Hid (Below w.heap.size w w2) := (by rw [hw2]; exact setRow_below HBW.out (Nat.le_succ _) _); clear hw2 hN2)
      | (refine wpList_load_hv rfl 58 (.tmp 3) rfl (w.heap.size + 1) _ _ v f t x rfl HN2.out Try.underlying58 rfl info_hdr HT.out HX.out ?_))
    refine (ptext_any v f t x _ HT.out HX.out f0 f1).mono ?_; rintro e w3 ⟨rfl, hb3⟩
    rw [ES.out]
    have HA3 := hid (HA2.out.below hb3 HA2.out.lt)
    have HN3 := hid (HN2.out.below hb3 HN2.out.lt)
    have HB3 := hid (HB2.out.trans (hb3.mono HB2.out.size))
    clear hb3 HA2 HN2 HB2 HA HB HA0 HBW
    go_wp2_with fail
    refine region_steady (fun u => Below w3.heap.size w3 u) (by kernel_rfl) (by kernel_rfl) (ext_drew _) ?_
    repeat (first
      | (refine steady_off (by rfl) ?_; try simp only [Act.put, List.setIfInBounds_toArray, List.set_cons_zero, List.set_cons_succ])
      | (refine steady_pure (v := ?_) (by rfl) ?_ ?_; rotate_left; (focus (intro u; go_simp; with_reducible rfl)); try simp only [Act.put, List.setIfInBounds_toArray, List.set_cons_zero, List.set_cons_succ]))
    refine steady_load 61 (.tmp 1) rfl (by rfl) (fun u k => load_hdr (HA3.out.below k HA3.out.lt) Try.underlying61 rfl info_rhdr HT.out HX.out) ?_
    try simp only [Act.put, List.setIfInBounds_toArray, List.set_cons_zero, List.set_cons_succ]
    refine steady_call (fun u k => bel_call k (ES.out ▸ rtextH_any v f t x u HT.out HX.out f0 f1)) (by rfl) (fun u => by go_simp) ?_
    try simp only [Act.put, List.setIfInBounds_toArray, List.set_cons_zero, List.set_cons_succ]
    repeat (first
      | (refine steady_off (by rfl) ?_; try simp only [Act.put, List.setIfInBounds_toArray, List.set_cons_zero, List.set_cons_succ])
      | (refine steady_pure (v := ?_) (by rfl) ?_ ?_; rotate_left; (focus (intro u; go_simp; with_reducible rfl)); try simp only [Act.put, List.setIfInBounds_toArray, List.set_cons_zero, List.set_cons_succ]))
    refine steady_load 58 (.tmp 3) rfl (by rfl) (fun u k => load_hdr (HN3.out.below k HN3.out.lt) Try.underlying58 rfl info_hdr HT.out HX.out) ?_
    try simp only [Act.put, List.setIfInBounds_toArray, List.set_cons_zero, List.set_cons_succ]
    refine steady_call (fun u k => bel_call k (HM.out ▸ pmay_any v f t x u HT.out HX.out)) (by rfl) (fun u => by go_simp) ?_
    try simp only [Act.put, List.setIfInBounds_toArray, List.set_cons_zero, List.set_cons_succ]
    refine steady_load 61 (.tmp 1) rfl (by rfl) (fun u k => load_hdr (HA3.out.below k HA3.out.lt) Try.underlying61 rfl info_rhdr HT.out HX.out) ?_
    try simp only [Act.put, List.setIfInBounds_toArray, List.set_cons_zero, List.set_cons_succ]
    refine steady_call (fun u k => bel_call k (HM.out ▸ rmay_any v f t x u HT.out HX.out)) (by rfl) (fun u => by go_simp) ?_
    try simp only [Act.put, List.setIfInBounds_toArray, List.set_cons_zero, List.set_cons_succ]
    repeat (first
      | (refine steady_off (by rfl) ?_; try simp only [Act.put, List.setIfInBounds_toArray, List.set_cons_zero, List.set_cons_succ])
      | (refine steady_pure (v := ?_) (by rfl) ?_ ?_; rotate_left; (focus (intro u; go_simp; with_reducible rfl)); try simp only [Act.put, List.setIfInBounds_toArray, List.set_cons_zero, List.set_cons_succ]))
    refine steady_nil (fun w4 k4 => ?_)
    have HB4 := hid (HB3.out.trans (k4.mono HB3.out.size))
    have HN4 := hid (HN3.out.below k4 HN3.out.lt)
    clear k4 HB3 HN3 HA3
    go_wp2_with fail
    refine (pread_any S _ (by have := HL.out; omega)).mono ?_; rintro e w5 ⟨rfl, hb5⟩
    rw [HRT.out]
    have HB5 := hid (HB4.out.trans (hb5.mono HB4.out.size))
    have HN5 := hid (HN4.out.below hb5 HN4.out.lt)
    have HLT5 := hid (Nat.lt_of_lt_of_le HN4.out.lt hb5.size)
    clear hb5 HB4 HN4
    go_wp2_with (first
      | (refine wpList_store_hv rfl 58 (.tmp 5) (.tmp 27) rfl w5.heap.size _ 0 f 0 0 t x (zb 16) (zb 8) rfl rfl (new_hv w5 _) info_hdr HT.out HX.out (zb_length _) (zb_length _) ?_; intro w6 hw6 hM6; have HB6 := hid (HB5.out.trans ((stored_new hw6).mono HB5.out.size)); have HN6 := hid (HN5.out.below (stored_new hw6) HN5.out.lt); have HM6 := hid hM6; have c0 : w6.cell? ⟨w.heap.size + 1, 0, none⟩ = some (.int .u8 v) := (HN6.out.cell 0).trans rfl; have e0 : w6.frozen? ⟨w.heap.size + 1, 0, none⟩ = false := HN6.out.frozen 0; have HN7 := hid (HN6.out.setV 0); have HM7 := hid (HM6.out.far (p := ⟨w.heap.size + 1, 0, none⟩) (show w5.heap.size ≠ w.heap.size + 1 from fun h => by have := HLT5.out; omega) (.int .u8 0)); have HB7 := hid (below_cellAt HB6.out (Nat.le_succ _) 0 (.int .u8 0)); clear hw6 hM6)
      | (refine wpList_load_hvW (by rfl) 58 (.tmp 5) rfl w5.heap.size _ _ 0 f t x rfl HM7.out Try.underlying58 rfl info_hdr HT.out HX.out ?_)
      | (refine wpList_load_hvW (by rfl) 58 (.tmp 3) rfl (w.heap.size + 1) _ _ 0 f t x rfl HN7.out Try.underlying58 rfl info_hdr HT.out HX.out ?_))
    refine (pworks_any _).mono ?_; rintro e w8 ⟨rfl, hb8⟩
    have HB8 := hid (HB7.out.trans (hb8.mono HB7.out.size))
    clear hb8
    go_wp2_with fail
    go_ret
    exact ⟨rfl, HB8.out⟩
set_option maxRecDepth 100000 in
set_option maxHeartbeats 4000000 in
theorem parentKeeps_any (k : Int) (t x p : List UInt8) (v f : Int) (t' x' : List UInt8) (w : World) (ht : t.length = 16) (hx : x.length = 8) (hp : p.length = 8) (ht' : t'.length = 16) (hx' : x'.length = 8) (f0 : 0 ≤ f) (f1 : f ≤ 255) :
    Calls Try.prog 10 #[Cv t x p k, Hv v t' x' f] w fun e w' => e = .returned (.bool true) ∧ Below w.heap.size w w' := by
  have HT := hid ht
  have HX := hid hx
  have HP := hid hp
  have HT' := hid ht'
  have HX' := hid hx'
  obtain ⟨hA, hB, _, _, hbw⟩ := box2 (Below.refl ((w.alloc (.cells (cc t x p k).toArray 69)).alloc (.cells (hc v t' x' f).toArray 61)).heap.size _)
  have HA := hid hA
  have HB := hid hB
  have HBW := hid hbw
  have hk01 : 0 ≤ keepF k ∧ keepF k ≤ 1 := by unfold keepF; split <;> omega
  have HK1 := hid (show (k = 1 ∨ k = 2) → 1 + keepF k % 2 = k from fun h => by unfold keepF; rcases h with rfl | rfl <;> rfl)
  have heqh := fun u => run_neq_rhv u 0 (keepF k) 0 (keepF k) t x t x ht hx ht hx
  simp only [rhvq_self] at heqh
  have heqc := fun u => run_neq_cv u (1 + f % 2) (1 + f % 2) t' x' (zb 8) t' x' (zb 8) ht' hx' (zb_length _) ht' hx' (zb_length _)
  simp only [cvq_self] at heqc
  have HQ := hid (fun u => run_eq_cv u k k t x (zb 8) t x (zb 8) ht hx (zb_length _) ht hx (zb_length _))
  simp only [cvq_self] at HQ
  have HL24 := hid (show (b8s t ++ b8s x).length = 24 by simp [ht, hx])
  have HC32 := hid (cc_cells (k := k) ht hx hp)
  generalize hkf : keepF k = kf at *
  have EKF := hid hkf
  clear hA hB hbw ht hx hp ht' hx' hkf
  go_enter Try.func10, Try.ntmps10
  go_wp2_with (refine wpList_load_cv rfl 69 (.tmp 2) rfl w.heap.size _ _ k t x p rfl HA.out Try.underlying69 rfl info_ctx HT.out HX.out HP.out ?_)
  refine (pof_any t x p k _ HT.out HX.out HP.out).mono ?_; rintro e w1 ⟨rfl, hb1⟩
  rw [EKF.out]
  have HA1 := hid (HA.out.below hb1 HA.out.lt)
  have HB1 := hid (HB.out.below hb1 HB.out.lt)
  have HW1 := hid (HBW.out.trans (hb1.mono HBW.out.size))
  have HLT1 := hid (Nat.lt_of_lt_of_le HA.out.lt hb1.size)
  clear hb1 HA HB HBW
  go_wp2_with (refine wpList_store_hv rfl 58 (.tmp 5) (.tmp 7) rfl w1.heap.size _ 0 kf 0 0 t x (zb 16) (zb 8) rfl rfl (new_hv w1 _) info_hdr HT.out HX.out (zb_length _) (zb_length _) ?_; intro w2 hw2 hN2; have HW2 := hid (HW1.out.trans ((stored_new hw2).mono HW1.out.size)); have HA2 := hid (HA1.out.below (stored_new hw2) HA1.out.lt); have HB2 := hid (HB1.out.below (stored_new hw2) HB1.out.lt); have HN2 := hid hN2; clear hw2 hN2)
  refine region_steady (fun u => Below w2.heap.size w2 u) (by kernel_rfl) (by kernel_rfl) (ext_drew _) ?_
  clear HA1 HB1 HW1
  refine steady_load 58 (.tmp 5) rfl (by rfl) (fun u k => load_hdr (HN2.out.below k HN2.out.lt) Try.underlying58 rfl info_hdr HT.out HX.out) ?_
  try simp only [Act.put, List.setIfInBounds_toArray, List.set_cons_zero, List.set_cons_succ]
  refine steady_load 69 (.tmp 2) rfl (by rfl) (fun u k => load_ctx (HA2.out.below k HA2.out.lt) Try.underlying69 rfl info_ctx HT.out HX.out HP.out) ?_
  try simp only [Act.put, List.setIfInBounds_toArray, List.set_cons_zero, List.set_cons_succ]
  refine steady_call (fun u q => bel_call q (EKF.out ▸ rof_any t x p k u HT.out HX.out HP.out)) (by rfl) (fun u => by go_simp) ?_
  try simp only [Act.put, List.setIfInBounds_toArray, List.set_cons_zero, List.set_cons_succ]
  repeat (first
    | (refine steady_off (by rfl) ?_; try simp only [Act.put, List.setIfInBounds_toArray, List.set_cons_zero, List.set_cons_succ])
    | (refine steady_pure (v := ?_) (by rfl) ?_ ?_; rotate_left; (focus (intro u; go_simp; with_reducible rfl)); try simp only [Act.put, List.setIfInBounds_toArray, List.set_cons_zero, List.set_cons_succ]))
  refine steady_load 61 (.tmp 3) rfl (by rfl) (fun u k => load_hdr (HB2.out.below k HB2.out.lt) Try.underlying61 rfl info_rhdr HT'.out HX'.out) ?_
  try simp only [Act.put, List.setIfInBounds_toArray, List.set_cons_zero, List.set_cons_succ]
  refine steady_call (fun u q => bel_call q (pctx_any v f t' x' u HT'.out HX'.out f0 f1)) (by rfl) (fun u => by go_simp) ?_
  try simp only [Act.put, List.setIfInBounds_toArray, List.set_cons_zero, List.set_cons_succ]
  refine steady_load 61 (.tmp 3) rfl (by rfl) (fun u k => load_hdr (HB2.out.below k HB2.out.lt) Try.underlying61 rfl info_rhdr HT'.out HX'.out) ?_
  try simp only [Act.put, List.setIfInBounds_toArray, List.set_cons_zero, List.set_cons_succ]
  refine steady_call (fun u q => bel_call q (rctx_any v f t' x' u HT'.out HX'.out f0 f1)) (by rfl) (fun u => by go_simp) ?_
  try simp only [Act.put, List.setIfInBounds_toArray, List.set_cons_zero, List.set_cons_succ]
  repeat (first
    | (refine steady_off (by rfl) ?_; try simp only [Act.put, List.setIfInBounds_toArray, List.set_cons_zero, List.set_cons_succ])
    | (refine steady_pure (v := ?_) (by rfl) ?_ ?_; rotate_left; (focus (intro u; go_simp; with_reducible rfl)); try simp only [Act.put, List.setIfInBounds_toArray, List.set_cons_zero, List.set_cons_succ]))
  refine steady_nil (fun w3 k3 => ?_)
  have HA3 := hid (HA2.out.below k3 HA2.out.lt)
  have HN3 := hid (HN2.out.below k3 HN2.out.lt)
  have HW3 := hid (HW2.out.trans (k3.mono HW2.out.size))
  have c32 : w3.cell? ⟨w.heap.size, 32, none⟩ = some (.int .i64 k) := (HA3.out.cell 32).trans HC32.out
  clear k3 HA2 HB2 HN2 HW2 heqh heqc
  by_cases h1 : k = 1 ∨ k = 2
  case neg =>
    have q1 : (k != 1) = true := by simpa using fun h => h1 (.inl h)
    have q2 : (k != 2) = true := by simpa using fun h => h1 (.inr h)
    clear h1 HQ
    go_wp2_with fail
    refine (pworks_any _).mono ?_; rintro e w4 ⟨rfl, hb4⟩
    have HB4 := hid (HW3.out.trans (hb4.mono HW3.out.size))
    clear hb4
    go_wp2_with fail
    go_ret
    exact ⟨rfl, HB4.out⟩
  have HKK := hid (HK1.out h1)
  have heqq := HQ.out
  clear HQ HK1
  have HAP := hid HA3.out.ccP
  have hcase : (k != 1) = false ∨ ((k != 1) = true ∧ (k != 2) = false) := by
    rcases h1 with rfl | rfl
    · exact .inl rfl
    · exact .inr ⟨rfl, rfl⟩
  clear h1
  rcases hcase with q1 | ⟨q1, q2⟩
  all_goals
    go_wp2_with (first
      | (refine wpList_build_to rfl 41 #[] rfl [] _ rfl built_zspan ?_; change wpList _ _ _ _ (Act.put _ _ (Av (zb 8))) _)
      | (refine wpList_store_seg rfl 41 (.tmp 29) (.tmp 28) rfl w.heap.size 24 8 _ (b8s t ++ b8s x) _ (zb 8) p rfl rfl HAP.out HL24.out info_span (zb_length _) HP.out ?_; intro w4 hw4 hA4; have HA4 : Hid (Blk w4 w.heap.size 69 (cc t x (zb 8) k).toArray) := (by rw [cc_parent]; exact hA4); have HW4 : Hid (Below w.heap.size w w4) := (by rw [hw4]; exact below_setCells (Nat.le_refl _) _ _ HW3.out); have HN4 : Hid (Blk w4 w1.heap.size 58 (hc 0 t x kf).toArray) := (by rw [hw4]; exact setCells_far (Nat.ne_of_lt HLT1.out) _ _ HN3.out); clear hw4 hA4))
    refine region_steady (fun u => Below w4.heap.size w4 u) (by kernel_rfl) (by kernel_rfl) (ext_drew _) ?_
    clear c32
    refine steady_load 58 (.tmp 5) rfl (by rfl) (fun u k => load_hdr (HN4.out.below k HN4.out.lt) Try.underlying58 rfl info_hdr HT.out HX.out) ?_
    try simp only [Act.put, List.setIfInBounds_toArray, List.set_cons_zero, List.set_cons_succ]
    refine steady_call (fun u q => bel_call q (HKK.out ▸ pctx_any 0 kf t x u HT.out HX.out hk01.1 (by omega))) (by rfl) (fun u => by go_simp) ?_
    try simp only [Act.put, List.setIfInBounds_toArray, List.set_cons_zero, List.set_cons_succ]
    refine steady_load 69 (.tmp 2) rfl (by rfl) (fun u q => load_ctx (HA4.out.below q HA4.out.lt) Try.underlying69 rfl info_ctx HT.out HX.out (zb_length _)) ?_
    try simp only [Act.put, List.setIfInBounds_toArray, List.set_cons_zero, List.set_cons_succ]
    repeat (first
      | (refine steady_off (by rfl) ?_; try simp only [Act.put, List.setIfInBounds_toArray, List.set_cons_zero, List.set_cons_succ])
      | (refine steady_pure (v := ?_) (by rfl) ?_ ?_; rotate_left; (focus (intro u; go_simp; with_reducible rfl)); try simp only [Act.put, List.setIfInBounds_toArray, List.set_cons_zero, List.set_cons_succ]))
    refine steady_call (fun u q => bel_call q (pworks_any u)) (by rfl) (fun u => by go_simp) ?_
    try simp only [Act.put, List.setIfInBounds_toArray, List.set_cons_zero, List.set_cons_succ]
    repeat (first
      | (refine steady_off (by rfl) ?_; try simp only [Act.put, List.setIfInBounds_toArray, List.set_cons_zero, List.set_cons_succ])
      | (refine steady_pure (v := ?_) (by rfl) ?_ ?_; rotate_left; (focus (intro u; go_simp; with_reducible rfl)); try simp only [Act.put, List.setIfInBounds_toArray, List.set_cons_zero, List.set_cons_succ]))
    refine steady_nil (fun w5 k5 => ?_)
    have HW5 := hid (HW4.out.trans (k5.mono HW4.out.size))
    clear k5
    go_wp2_with fail
    go_ret
    exact ⟨rfl, HW5.out⟩
end Go.Proofs.Ytdjbgojdkaipfaa
