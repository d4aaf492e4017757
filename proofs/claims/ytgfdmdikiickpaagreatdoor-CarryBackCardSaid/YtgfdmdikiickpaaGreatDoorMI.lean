/-
  Texts for the laws of this seat, merged: BthreeG.
-/
import Derived.Test.YtgfdmdikiickpaaGreatDoorMH
/-! BthreeG -/
namespace Go.Proofs.YtgfdmdikiickpaaGreatDoor
open Go.RowKit

def mc (m : Mu) : Array Value := #[Sv m.1, Sv m.2.1, Sv m.2.2.1, Sv m.2.2.2.1, Sv m.2.2.2.2]
theorem beqs_yes {a b : List UInt8} (h : (a == b) = true) : a = b := by simpa using h
theorem beqs_no {a b : List UInt8} (h : (a == b) = false) : a ≠ b := by simpa using h
theorem Frm.mcells {w0 w : World} {L : List Bk} (h : Frm w0 w L) (i : Nat) {g : Nat} {T : TypeId} {m : Mu} (hi : L[i]? = some (g, T, mc m)) :
    w.cell? ⟨g, 0, none⟩ = some (Sv m.1) ∧ w.cell? ⟨g, 1, none⟩ = some (Sv m.2.1) ∧ w.cell? ⟨g, 2, none⟩ = some (Sv m.2.2.1) ∧ w.cell? ⟨g, 3, none⟩ = some (Sv m.2.2.2.1) ∧ w.cell? ⟨g, 4, none⟩ = some (Sv m.2.2.2.2) :=
  ⟨h.cell i hi 0 rfl, h.cell i hi 1 rfl, h.cell i hi 2 rfl, h.cell i hi 3 rfl, h.cell i hi 4 rfl⟩
def shortM (m : Mu) : Prop := m.1.length ≤ 140737488355328 ∧ m.2.1.length ≤ 140737488355328 ∧ m.2.2.1.length ≤ 140737488355328
theorem info_mul : (Tryz.prog.info? 89).map (·.size) = some 5 := by kernel_rfl
theorem Frm.loadMv {w0 w : World} {L : List Bk} (h : Frm w0 w L) (i : Nat) {g : Nat} {T : TypeId} {m : Mu} (hi : L[i]? = some (g, T, mc m)) : (Instr.loadAt 89 (.pointer (some ⟨g, 0, none⟩))).run Tryz.prog w = .ok (Mv m) w :=
  run_loadAt_mid w g 0 89 (mc m).toList _ (fun j u hu => by rw [Nat.zero_add, (h.get i hi).cell j, ← hu]; simp) Tryz.underlying89 rfl (by rw [info_mul]; rfl)
theorem sampR_code (a b : List UInt8) : (sampR a b).2 = 0 ∨ (sampR a b).2 = 3 := by
  unfold sampR
  split
  · split
    · exact .inl rfl
    · split
      · exact .inl rfl
      · exact .inr rfl
  · exact .inr rfl
theorem iE {l : List UInt8} (h : l ≠ []) : l.isEmpty = false := by cases l with | nil => exact absurd rfl h | cons a r => rfl
set_option maxRecDepth 100000 in
set_option maxHeartbeats 4000000 in
theorem breadmulti_half (m : Mu) (w : World) (hh : halfM m) :
    Calls Tryz.prog 55 #[Mv m] w fun e w' => e = .returned (cxOut (multiR m)) ∧ Below w.heap.size w w' := by
  have HO := hid (show multiR m = cxBad 9 from if_pos hh)
  obtain ⟨tr, sp, pa, sa, fl⟩ := m
  obtain ⟨W1, hW⟩ : ∃ W1, (w.alloc (.cells #[Sv tr, Sv sp, Sv pa, Sv sa, Sv fl] 89)).alloc (.cells #[.int .u8 0, .int .u8 0, .int .u8 0, .int .u8 0, .int .u8 0, .int .u8 0, .int .u8 0, .int .u8 0, .int .u8 0, .int .u8 0, .int .u8 0, .int .u8 0, .int .u8 0, .int .u8 0, .int .u8 0, .int .u8 0, .int .u8 0, .int .u8 0, .int .u8 0, .int .u8 0, .int .u8 0, .int .u8 0, .int .u8 0, .int .u8 0, .int .u8 0, .int .u8 0, .int .u8 0, .int .u8 0, .int .u8 0, .int .u8 0, .int .u8 0, .int .u8 0, .int .i64 0] 31) = W1 := ⟨_, rfl⟩
  have hF : Frm w W1 [(w.heap.size, 89, mc (tr, sp, pa, sa, fl)), (w.heap.size + 1, 31, (cc (zb 16) (zb 8) (zb 8) 0).toArray)] := hW ▸ ((Frm.start w).new 89 #[Sv tr, Sv sp, Sv pa, Sv sa, Sv fl] rfl).new0 31 (n := w.heap.size + 1) (by simp)
  have HF := hid hF
  have HW := hid hW
  obtain ⟨m0, m1, m2, m3, m4⟩ := hF.mcells 0 rfl
  simp only at m0 m1 m2 m3 m4
  clear hF hW
  unfold Mv
  simp only
  by_cases h1 : tr = []
  · subst h1
    by_cases h2 : sp = []
    · subst h2
      have h3 := iE (l := pa) (fun e => hh.2 ⟨rfl, rfl, e⟩)
      clear hh
      go_enter Tryz.func55, Tryz.ntmps55
      go_upto_region 1 with fail
      rw [HW.out]
      go_wp2_with (first
        | (refine at_store 31 (by rfl) ?_; refine wpList_putCv HF.out 1 (t := zb 16) (x := zb 8) (p := zb 8) (k := 0) rfl rfl rfl okc_zero okc_zero rfl rfl ?_; intro w9 h9; have HF9 := hid h9; clear h9))
      exact bodyPost_ret (results_cv2 rfl _ _ _ _ _ _ _ _ _ rfl (HF9.out.get 1 rfl) Tryz.underlying31 rfl info_ctx okc_zero) rfl ⟨by rw [HO.out]; rfl, HF9.out.bel⟩
    · have h3 := iE h2
      clear hh h2
      go_enter Tryz.func55, Tryz.ntmps55
      go_upto_region 1 with fail
      rw [HW.out]
      go_wp2_with (first
        | (refine at_store 31 (by rfl) ?_; refine wpList_putCv HF.out 1 (t := zb 16) (x := zb 8) (p := zb 8) (k := 0) rfl rfl rfl okc_zero okc_zero rfl rfl ?_; intro w9 h9; have HF9 := hid h9; clear h9))
      exact bodyPost_ret (results_cv2 rfl _ _ _ _ _ _ _ _ _ rfl (HF9.out.get 1 rfl) Tryz.underlying31 rfl info_ctx okc_zero) rfl ⟨by rw [HO.out]; rfl, HF9.out.bel⟩
  · have h2 : sp = [] := hh.1.resolve_left h1
    subst h2
    have h3 := iE h1
    clear hh h1
    go_enter Tryz.func55, Tryz.ntmps55
    go_upto_region 1 with fail
    rw [HW.out]
    go_wp2_with (first
      | (refine at_store 31 (by rfl) ?_; refine wpList_putCv HF.out 1 (t := zb 16) (x := zb 8) (p := zb 8) (k := 0) rfl rfl rfl okc_zero okc_zero rfl rfl ?_; intro w9 h9; have HF9 := hid h9; clear h9))
    exact bodyPost_ret (results_cv2 rfl _ _ _ _ _ _ _ _ _ rfl (HF9.out.get 1 rfl) Tryz.underlying31 rfl info_ctx okc_zero) rfl ⟨by rw [HO.out]; rfl, HF9.out.bel⟩
set_option maxRecDepth 100000 in
set_option maxHeartbeats 4000000 in
theorem breadmulti_none (sa fl : List UInt8) (w : World) :
    Calls Tryz.prog 55 #[Mv ([], [], [], sa, fl)] w fun e w' => e = .returned (cxOut (multiR ([], [], [], sa, fl))) ∧ Below w.heap.size w w' := by
  have hsamp := fun u => bsampled_any ([], [], [], sa, fl) u
  have HO := hid (show multiR ([], [], [], sa, fl) = if (sampR sa fl).2 = 0 then (zb 16, zb 8, zb 8, (sampR sa fl).1, 0) else cxBad 3 by
    unfold multiR
    rw [if_neg (by unfold halfM; simp)]
    show sampledR (cxBad 0) (sampR sa fl) = _
    unfold sampledR
    rw [if_pos (show (cxBad 0).2.2.2.2 = 0 from rfl)]
    rfl)
  have HC := sampR_code sa fl
  simp only at hsamp
  generalize (sampR sa fl).1 = k at HO hsamp
  generalize (sampR sa fl).2 = c at HO hsamp HC
  obtain ⟨W1, hW⟩ : ∃ W1, (w.alloc (.cells #[Sv [], Sv [], Sv [], Sv sa, Sv fl] 89)).alloc (.cells #[.int .u8 0, .int .u8 0, .int .u8 0, .int .u8 0, .int .u8 0, .int .u8 0, .int .u8 0, .int .u8 0, .int .u8 0, .int .u8 0, .int .u8 0, .int .u8 0, .int .u8 0, .int .u8 0, .int .u8 0, .int .u8 0, .int .u8 0, .int .u8 0, .int .u8 0, .int .u8 0, .int .u8 0, .int .u8 0, .int .u8 0, .int .u8 0, .int .u8 0, .int .u8 0, .int .u8 0, .int .u8 0, .int .u8 0, .int .u8 0, .int .u8 0, .int .u8 0, .int .i64 0] 31) = W1 := ⟨_, rfl⟩
  have hF : Frm w W1 [(w.heap.size, 89, mc ([], [], [], sa, fl)), (w.heap.size + 1, 31, (cc (zb 16) (zb 8) (zb 8) 0).toArray)] := hW ▸ ((Frm.start w).new 89 #[Sv [], Sv [], Sv [], Sv sa, Sv fl] rfl).new0 31 (n := w.heap.size + 1) (by simp)
  obtain ⟨m0, m1, m2, m3, m4⟩ := hF.mcells 0 rfl
  simp only at m0 m1 m2 m3 m4
  obtain ⟨W2, hW2⟩ : ∃ W2, W1.alloc (.cells #[.int .u8 0, .int .u8 0, .int .u8 0, .int .u8 0, .int .u8 0, .int .u8 0, .int .u8 0, .int .u8 0, .int .u8 0, .int .u8 0, .int .u8 0, .int .u8 0, .int .u8 0, .int .u8 0, .int .u8 0, .int .u8 0, .int .u8 0, .int .u8 0, .int .u8 0, .int .u8 0, .int .u8 0, .int .u8 0, .int .u8 0, .int .u8 0, .int .u8 0, .int .u8 0, .int .u8 0, .int .u8 0, .int .u8 0, .int .u8 0, .int .u8 0, .int .u8 0, .int .i64 0] 31) = W2 := ⟨_, rfl⟩
  have hF2 : Frm w W2 [(w.heap.size, 89, mc ([], [], [], sa, fl)), (w.heap.size + 1, 31, (cc (zb 16) (zb 8) (zb 8) 0).toArray), (W1.heap.size, 31, (cc (zb 16) (zb 8) (zb 8) 0).toArray)] := hW2 ▸ hF.new0 31 rfl
  obtain ⟨n0, n1, n2, n3, n4⟩ := hF2.mcells 0 rfl
  simp only at n0 n1 n2 n3 n4
  have HF := hid hF2
  have HW := hid hW
  have HW2 := hid hW2
  clear hF hW hF2 hW2
  unfold Mv
  simp only
  go_enter Tryz.func55, Tryz.ntmps55
  go_upto_region 1 with fail
  rw [HW.out]
  go_upto_region 5 with fail
  rw [HW2.out]
  go_wp2_with (first
    | (refine at_load 89 (by rfl) ?_; refine wpList_loadE rfl rfl (HF.out.loadMv 0 rfl) rfl ?_)
    | (go_at_call 86; refine (hsamp _).mono ?_; rintro e w2 ⟨rfl, hb2⟩; have HF2 := hid (HF.out.call hb2); clear hb2)
    | (refine at_store 3 (by rfl) ?_; refine wpList_putK HF2.out 2 rfl rfl rfl okc_zero rfl rfl ?_; intro w6 h6; have HF6 := hid h6; clear h6)
    | (refine at_store 31 (by rfl) ?_; refine wpList_putCv HF6.out 1 (t := zb 16) (x := zb 8) (p := zb 8) (k := 0) rfl rfl rfl okc_zero okc_zero rfl rfl ?_; intro w9 h9; have HF9 := hid h9; clear h9)
    | (refine at_load 31 (by rfl) ?_; refine wpList_loadE rfl rfl (HF6.out.loadCv 2 rfl okc_zero) rfl ?_)
    | (refine at_store 31 (by rfl) ?_; refine wpList_putCv HF6.out 1 rfl rfl rfl okc_zero okc_zero rfl rfl ?_; intro w9 h9; have HF9 := hid h9; clear h9))
  · have q : c ≠ 0 := neq_yes (by assumption)
    have q3 : c = 3 := HC.resolve_left q
    exact bodyPost_ret (results_cv2 rfl _ _ _ _ _ _ _ _ _ rfl (HF9.out.get 1 rfl) Tryz.underlying31 rfl info_ctx okc_zero) rfl ⟨by rw [HO.out, if_neg q, q3]; rfl, HF9.out.bel⟩
  · have q : c = 0 := neq_no (by assumption)
    exact bodyPost_ret (results_cv2 rfl _ _ _ _ _ _ _ _ _ rfl (HF9.out.get 1 rfl) Tryz.underlying31 rfl info_ctx okc_zero) rfl ⟨by rw [HO.out, if_pos q]; rfl, HF9.out.bel⟩
end Go.Proofs.YtgfdmdikiickpaaGreatDoor
