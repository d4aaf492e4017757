/-
  Walks of package b3: read.
-/
import Derived.Test.YtgfdmdikiickpaaDoorBthreeC
import Derived.Test.YtgfdmdikiickpaaDoorTokenM
namespace Go.Proofs.YtgfdmdikiickpaaDoor
open Go.RowKit

theorem beqi_yes {a b : Int} (h : (a == b) = true) : a = b := by simpa using h
theorem beqi_no {a b : Int} (h : (a == b) = false) : a ≠ b := by simpa using h
/-- A frame, and behind it a block of the token's. -/
def FrmT (w0 : World) (L : List Bk) (T : TypeId) (cs : Array Value) (b : Bool) (x : Value) (u : World) : Prop :=
  if b = true then ∃ g, x = .pointer (some ⟨g, 0, none⟩) ∧ Frm w0 u (L ++ [(g, T, cs)]) else Frm w0 u L
theorem FrmT.call {w0 u : World} {L : List Bk} {T : TypeId} {cs : Array Value} {b : Bool} {x : Value} (h : FrmT w0 L T cs b x u) {fn : FuncId} {args : Array Value} {r : Value} (hc : Calls Tryd.prog fn args u fun e u' => e = .returned r ∧ Below u.heap.size u u') :
    Calls Tryd.prog fn args u fun e u' => e = .returned r ∧ FrmT w0 L T cs b x u' := hc.mono fun _ u' ⟨he, hb⟩ => ⟨he, by
  unfold FrmT at h ⊢
  cases b with
  | false => simp only [Bool.false_eq_true, if_false] at h ⊢; exact h.call hb
  | true =>
    simp only [if_true] at h ⊢
    obtain ⟨g, e, hF⟩ := h
    exact ⟨g, e, hF.call hb⟩⟩
theorem FrmT.bel {w0 u : World} {L : List Bk} {T : TypeId} {cs : Array Value} {b : Bool} {x : Value} (h : FrmT w0 L T cs b x u) : Below w0.heap.size w0 u := by
  unfold FrmT at h
  cases b with
  | false => simp only [Bool.false_eq_true, if_false] at h; exact h.bel
  | true =>
    simp only [if_true] at h
    obtain ⟨g, e, hF⟩ := h
    exact hF.bel
theorem Lie.below {w w' : World} {g : Nat} {L : List (List UInt8)} (h : Lie w g L) {B : Nat} (hb : Below B w w') (hg : g < B) : Lie w' g L := Blk.below h hb hg
theorem run_load_str {w : World} {p : Addr} {s : List UInt8} (h : w.cell? p = some (Sv s)) : (Instr.loadAt 9 (.pointer (some p))).run Tryd.prog w = .ok (Sv s) w := by go_simp
theorem store_new (u : World) (t x p : List UInt8) (k : Int) (hl : Okc t x p) :
    (storeCells ⟨u.heap.size, 0, none⟩ (cc t x p k) 0).run Tryd.prog (u.alloc (.cells #[.int .u8 0, .int .u8 0, .int .u8 0, .int .u8 0, .int .u8 0, .int .u8 0, .int .u8 0, .int .u8 0, .int .u8 0, .int .u8 0, .int .u8 0, .int .u8 0, .int .u8 0, .int .u8 0, .int .u8 0, .int .u8 0, .int .u8 0, .int .u8 0, .int .u8 0, .int .u8 0, .int .u8 0, .int .u8 0, .int .u8 0, .int .u8 0, .int .u8 0, .int .u8 0, .int .u8 0, .int .u8 0, .int .u8 0, .int .u8 0, .int .u8 0, .int .u8 0, .int .i64 0] 29)) = .ok () (u.alloc (.cells (cc t x p k).toArray 29)) := by
  have := run_storeCells_new (P := Tryd.prog) u 29 #[.int .u8 0, .int .u8 0, .int .u8 0, .int .u8 0, .int .u8 0, .int .u8 0, .int .u8 0, .int .u8 0, .int .u8 0, .int .u8 0, .int .u8 0, .int .u8 0, .int .u8 0, .int .u8 0, .int .u8 0, .int .u8 0, .int .u8 0, .int .u8 0, .int .u8 0, .int .u8 0, .int .u8 0, .int .u8 0, .int .u8 0, .int .u8 0, .int .u8 0, .int .u8 0, .int .u8 0, .int .u8 0, .int .u8 0, .int .u8 0, .int .u8 0, .int .u8 0, .int .i64 0] (cc t x p k).toArray (by rw [info_ctx]; simp [cc, hl.1, hl.2.1, hl.2.2]) (by simp [cc, hl.1, hl.2.1, hl.2.2]) (cc_one k t x p)
  simpa using this
theorem store_in {u : World} {g : Nat} {T : TypeId} (hb : Blk u g T (cc (zb 16) (zb 8) (zb 8) 0).toArray) (t x p : List UInt8) (k : Int) (hl : Okc t x p) :
    (storeCells ⟨g, 0, none⟩ (cc t x p k) 0).run Tryd.prog u = .ok () (u.setRow g (cc t x p k).toArray) := by
  have h1 := fun v (hv : v ∈ cc t x p k) => (Array.all_eq_true_iff_forall_mem.1 (cc_one k t x p)) v (by simpa using hv)
  have := run_storeCells_from (P := Tryd.prog) g T (cc t x p k) 0 _ u hb (by simp [cc, hl.1, hl.2.1, hl.2.2]) h1
  simpa using this
theorem idsR_bad {a b : List UInt8} (h : (idsR a b).2.2.2.2 ≠ 0) : idsR a b = cxBad (idsR a b).2.2.2.2 := by
  unfold idsR at h ⊢
  split
  · rename_i h1
    rw [if_pos h1] at h
    split
    · rename_i h2
      rw [if_pos h2] at h
      exact absurd rfl h
    · rfl
  · rfl
theorem oneL_bad {L : List (List UInt8)} {a b : List UInt8} (ha : L[0]? = some a) (hb : L[1]? = some b) (hn : L.length ≤ 4) (h : (idsR a b).2.2.2.2 ≠ 0) : oneL L = cxBad (idsR a b).2.2.2.2 := by
  match L, ha, hb, hn with
  | [a', b'], ha, hb, _ =>
    obtain rfl : a' = a := by simpa using ha
    obtain rfl : b' = b := by simpa using hb
    exact idsR_bad h
  | [a', b', c], ha, hb, _ =>
    obtain rfl : a' = a := by simpa using ha
    obtain rfl : b' = b := by simpa using hb
    show keepR _ _ = _
    unfold keepR
    rw [if_neg h]
    exact idsR_bad h
  | [a', b', c, d], ha, hb, _ =>
    obtain rfl : a' = a := by simpa using ha
    obtain rfl : b' = b := by simpa using hb
    show parR (keepR _ _) _ = _
    unfold parR keepR
    rw [if_neg h, if_neg h]
    exact idsR_bad h
theorem oneL_two {L : List (List UInt8)} {a b : List UInt8} (ha : L[0]? = some a) (hb : L[1]? = some b) (hn : L.length = 2) : oneL L = idsR a b := by
  match L, ha, hb, hn with
  | [a', b'], ha, hb, _ =>
    obtain rfl : a' = a := by simpa using ha
    obtain rfl : b' = b := by simpa using hb
    rfl
theorem oneL_three {L : List (List UInt8)} {a b : List UInt8} (ha : L[0]? = some a) (hb : L[1]? = some b) (hn : L.length = 3) : ∃ c, L[2]? = some c ∧ oneL L = keepR (idsR a b) c := by
  match L, ha, hb, hn with
  | [a', b', c], ha, hb, _ =>
    obtain rfl : a' = a := by simpa using ha
    obtain rfl : b' = b := by simpa using hb
    exact ⟨c, rfl, rfl⟩
theorem oneL_four {L : List (List UInt8)} {a b : List UInt8} (ha : L[0]? = some a) (hb : L[1]? = some b) (hn : L.length = 4) : ∃ c d, L[2]? = some c ∧ L[3]? = some d ∧ oneL L = parR (keepR (idsR a b) c) d := by
  match L, ha, hb, hn with
  | [a', b', c, d], ha, hb, _ =>
    obtain rfl : a' = a := by simpa using ha
    obtain rfl : b' = b := by simpa using hb
    exact ⟨c, d, rfl, rfl, rfl⟩
set_option maxRecDepth 100000 in
set_option maxHeartbeats 4000000 in
theorem bread_any (L : List (List UInt8)) (a b : List UInt8) (g : Nat) (w : World) (h : Lie w g L) (ha : L[0]? = some a) (hb : L[1]? = some b) (hn : L.length ≤ 4) (hl : ∀ s ∈ L, s.length ≤ 140737488355328) :
    Calls Tryd.prog 37 #[.slice (some ⟨g, 0, none⟩) L.length L.length] w fun e w' => e = .returned (cxOut (oneL L)) ∧ Below w.heap.size w w' := by
  have HA := hid (hl a (List.mem_of_getElem? ha))
  have HB := hid (hl b (List.mem_of_getElem? hb))
  have HL := hid h
  have HG := hid (Blk.lt h)
  obtain ⟨r, hr⟩ : ∃ r, idsR a b = r := ⟨_, rfl⟩
  have hids := fun u => bids_any a b u HA.out HB.out
  have HI0 := lenOk_ids a b
  rw [hr] at HI0 hids
  have HBAD := hid (oneL_bad ha hb hn)
  have H2 := hid (fun q => oneL_two ha hb q)
  have H3 := hid (fun q => oneL_three ha hb q)
  have H4 := hid (fun q => oneL_four ha hb q)
  have HS := hid (fun (s : List UInt8) (k : Nat) (q : L[k]? = some s) => hl s (List.mem_of_getElem? q))
  rw [hr] at HBAD H2 H3 H4
  clear hr
  obtain ⟨it, ix, ip, ik, ic⟩ := r
  have HI : Hid (Okc it ix ip) := HI0
  clear HI0
  unfold cxOut at hids
  simp only at hids
  have hn2 : 2 ≤ L.length := by
    rcases Nat.lt_or_ge 1 L.length with q | q
    · exact q
    · rw [List.getElem?_eq_none (by omega)] at hb; cases hb
  obtain ⟨c0, c1⟩ : w.cell? ⟨g, 0, none⟩ = some (Sv a) ∧ w.cell? ⟨g, 1, none⟩ = some (Sv b) := ⟨h.at_ ha, h.at_ hb⟩
  have HC0 := hid c0
  have HC1 := hid c1
  clear c0 c1 h
  have HF := hid ((Frm.start w).new0 29 rfl)
  generalize hW : w.alloc (.cells #[.int .u8 0, .int .u8 0, .int .u8 0, .int .u8 0, .int .u8 0, .int .u8 0, .int .u8 0, .int .u8 0, .int .u8 0, .int .u8 0, .int .u8 0, .int .u8 0, .int .u8 0, .int .u8 0, .int .u8 0, .int .u8 0, .int .u8 0, .int .u8 0, .int .u8 0, .int .u8 0, .int .u8 0, .int .u8 0, .int .u8 0, .int .u8 0, .int .u8 0, .int .u8 0, .int .u8 0, .int .u8 0, .int .u8 0, .int .u8 0, .int .u8 0, .int .u8 0, .int .i64 0] 29) = W1 at HF
  have HW := hid hW
  have HC := hid (show ∀ u, Below W1.heap.size W1 u → u.cell? ⟨g, 0, none⟩ = some (Sv a) ∧ u.cell? ⟨g, 1, none⟩ = some (Sv b) from fun u hu => by
    have hb1 : Below w.heap.size w u := by rw [← hW] at hu; exact (ext_alloc w _).trans (hu.mono (ext_alloc w _).size)
    exact ⟨(hb1.cell (p := ⟨g, 0, none⟩) HG.out).trans HC0.out, (hb1.cell (p := ⟨g, 1, none⟩) HG.out).trans HC1.out⟩)
  clear hW ha hb hl
  obtain ⟨n, hN⟩ : ∃ n, L.length = n := ⟨_, rfl⟩
  have HN := hid hN
  rw [hN]
  rw [hN] at hn hn2
  clear hN
  have q0 : (0 : Int) < (n : Int) ∧ (1 : Int) < (n : Int) := by omega
  obtain ⟨q0, q1⟩ := q0
  have q2 : 0 < n := by omega
  have hlen : (cc it ix ip ik).length = 33 := by simp [cc, HI.out.1, HI.out.2.1, HI.out.2.2]
  have hsc := fun (u : World) => store_new u it ix ip ik HI.out
  go_enter Tryd.func37, Tryd.ntmps37
  go_upto_region 1 with fail
  rw [HW.out]
  go_region_held3 (fun u => u.cell? ⟨g, 0, none⟩ = some (Sv a) ∧ u.cell? ⟨g, 1, none⟩ = some (Sv b))
    ((refine HC.out _ ?_; first | exact ext_drew _ | assumption | exact ext_trans (ext_drew _) (by assumption) | exact ext_trans (ext_trans (ext_drew _) (ext_alloc _ _)) (by assumption) | exact ext_trans (ext_trans (ext_drew _) (by assumption)) (ext_alloc _ _) | exact setRow_below (ext_trans (ext_trans (ext_drew _) (ext_alloc _ _)) (by assumption)) (Nat.le_refl _) _ | exact ext_trans (by assumption) (ext_alloc _ _) | exact ext_trans (ext_drew _) (ext_alloc _ _)))
    (first
      | (go_at_call 42; (with_reducible refine (hids _).mono ?_); rintro e wn ⟨rfl, hbn⟩; try have hsb := store_in (((HF.out.drew.new0 29 (n := W1.heap.size) rfl).call hbn).get 1 rfl) it ix ip ik HI.out))
  case' refine_2.refine_3.refine_3.refine_3.refine_3.refine_3.refine_3.refine_2.refine_1.refine_2.refine_1.refine_2.refine_3.refine_3.refine_3.refine_1.refine_2.refine_3 =>
    have HF4 : Hid (Frm w (wn.setRow W1.heap.size (cc it ix ip ik).toArray) [(w.heap.size, 29, (cc (zb 16) (zb 8) (zb 8) 0).toArray), (W1.heap.size, 29, (cc it ix ip ik).toArray)]) := ((HF.out.drew.new0 29 (n := W1.heap.size) rfl).call hbn).setRow 1 rfl _
    clear hsb hbn
    generalize wn.setRow W1.heap.size (cc it ix ip ik).toArray = w4 at HF4 ⊢
    generalize W1.heap.size = G at HF4 ⊢
  case' refine_2.refine_3.refine_3.refine_3.refine_3.refine_3.refine_3.refine_1.refine_2.refine_3.refine_3.refine_3.refine_1.refine_2.refine_1.refine_2.refine_3 =>
    have HF4 : Hid (Frm w (wn.alloc (.cells (cc it ix ip ik).toArray 29)) [(w.heap.size, 29, (cc (zb 16) (zb 8) (zb 8) 0).toArray), (wn.heap.size, 29, (cc it ix ip ik).toArray)]) := (HF.out.drew.call hbn).new 29 (cc it ix ip ik).toArray rfl
    clear hbn
    generalize wn.alloc (.cells (cc it ix ip ik).toArray 29) = w4 at HF4 ⊢
    generalize wn.heap.size = G at HF4 ⊢
  all_goals
    clear HF HW HC hsc hlen hids HC0 HC1 HA HB q0 q1 q2
    have e0 := HN.out
    rcases (by omega : n = 2 ∨ n = 3 ∨ n = 4) with rfl | rfl | rfl
    · have HO := hid (H2.out e0)
      clear H2 H3 H4 HN e0
      go_wp2_with (first
        | (refine at_store 29 (by rfl) ?_; refine wpList_putCv HF4.out 0 (t := zb 16) (x := zb 8) (p := zb 8) (k := 0) rfl rfl rfl okc_zero okc_zero rfl rfl ?_; intro w9 h9; have HF9 := hid h9; clear h9)
        | (refine at_load 29 (by rfl) ?_; refine wpList_loadE rfl rfl (HF4.out.loadCv 1 rfl HI.out) rfl ?_)
        | (refine at_store 29 (by rfl) ?_; refine wpList_putCv HF4.out 0 rfl rfl rfl okc_zero HI.out rfl rfl ?_; intro w9 h9; have HF9 := hid h9; clear h9))
      · have q : ic ≠ 0 := neq_yes (by assumption)
        exact bodyPost_ret (results_cv2 rfl _ _ _ _ _ _ _ _ _ rfl (HF9.out.get 0 rfl) Tryd.underlying29 rfl info_ctx okc_zero) rfl ⟨by rw [HBAD.out q]; rfl, HF9.out.bel⟩
      · have q : ic = 0 := neq_no (by assumption)
        subst q
        exact bodyPost_ret (results_cv2 rfl _ _ _ _ _ _ _ _ _ rfl (HF9.out.get 0 rfl) Tryd.underlying29 rfl info_ctx HI.out) rfl ⟨by rw [HO.out]; rfl, HF9.out.bel⟩
    · obtain ⟨c, hc3, hO⟩ := H3.out e0
      have HO := hid hO
      have c2 := (HL.out.below HF4.out.bel HG.out).at_ hc3
      clear H2 H3 H4 HN e0 hO hc3
      generalize hk : keepS c = kc
      have HK := hid hk
      have hkeep := fun u => bkeep_any c u
      rw [hk] at hkeep
      clear hk
      go_wp2_with (first
        | (refine at_store 29 (by rfl) ?_; refine wpList_putCv HF4.out 0 (t := zb 16) (x := zb 8) (p := zb 8) (k := 0) rfl rfl rfl okc_zero okc_zero rfl rfl ?_; intro w9 h9; have HF9 := hid h9; clear h9)
        | (go_at_call 36; refine (hkeep _).mono ?_; rintro e w5 ⟨rfl, rfl⟩)
        | (refine at_store 3 (by rfl) ?_; refine wpList_putK HF4.out 1 rfl rfl rfl HI.out rfl rfl ?_; intro w6 h6; have HF6 := hid h6; clear h6)
        | (refine at_load 29 (by rfl) ?_; refine wpList_loadE rfl rfl (HF6.out.loadCv 1 rfl HI.out) rfl ?_)
        | (refine at_store 29 (by rfl) ?_; refine wpList_putCv HF6.out 0 rfl rfl rfl okc_zero HI.out rfl rfl ?_; intro w9 h9; have HF9 := hid h9; clear h9))
      · have q : ic ≠ 0 := neq_yes (by assumption)
        exact bodyPost_ret (results_cv2 rfl _ _ _ _ _ _ _ _ _ rfl (HF9.out.get 0 rfl) Tryd.underlying29 rfl info_ctx okc_zero) rfl ⟨by rw [HBAD.out q]; rfl, HF9.out.bel⟩
      · have q : ic = 0 := neq_no (by assumption)
        have q2 : kc = 0 := beqi_yes (by assumption)
        exact bodyPost_ret (results_cv2 rfl _ _ _ _ _ _ _ _ _ rfl (HF9.out.get 0 rfl) Tryd.underlying29 rfl info_ctx okc_zero) rfl ⟨by rw [HO.out, show keepR (it, ix, ip, ik, ic) c = cxBad 3 by unfold keepR; rw [if_pos q, HK.out, if_pos q2]]; rfl, HF9.out.bel⟩
      · have q : ic = 0 := neq_no (by assumption)
        have q2 : kc ≠ 0 := beqi_no (by assumption)
        exact bodyPost_ret (results_cv2 rfl _ _ _ _ _ _ _ _ _ rfl (HF9.out.get 0 rfl) Tryd.underlying29 rfl info_ctx HI.out) rfl ⟨by rw [HO.out, show keepR (it, ix, ip, ik, ic) c = (it, ix, ip, kc, 0) by unfold keepR; rw [if_pos q, HK.out, if_neg q2]]; rfl, HF9.out.bel⟩
    · obtain ⟨c, d, hc3, hd3, hO⟩ := H4.out e0
      have HO := hid hO
      have HD := hid hd3
      have HSD := hid (HS.out d 3 hd3)
      have HLD := hid (spanT_length d)
      have c2 := (HL.out.below HF4.out.bel HG.out).at_ hc3
      clear H2 H3 H4 HN e0 hO hc3 hd3
      generalize hk : keepS c = kc
      have HK := hid hk
      have hkeep := fun u => bkeep_any c u
      rw [hk] at hkeep
      clear hk
      generalize hs : spanC d = dc
      have HDC := hid hs
      have hspan := fun u => readspan_any d u HSD.out
      rw [hs] at hspan
      clear hs
      go_wp2_with (first
        | (refine at_store 29 (by rfl) ?_; refine wpList_putCv HF4.out 0 (t := zb 16) (x := zb 8) (p := zb 8) (k := 0) rfl rfl rfl okc_zero okc_zero rfl rfl ?_; intro w9 h9; have HF9 := hid h9; clear h9)
        | (go_at_call 36; refine (hkeep _).mono ?_; rintro e w5 ⟨rfl, rfl⟩)
        | (refine at_store 3 (by rfl) ?_; refine wpList_putK HF4.out 1 rfl rfl rfl HI.out rfl rfl ?_; intro w6 h6; have HF6 := hid h6; have c3 := (HL.out.below h6.bel HG.out).at_ HD.out; clear h6)
        | (go_at_call 43; refine (hspan _).mono ?_; rintro e w7 ⟨rfl, hb7⟩; have HF7 := hid ((HF6.out.call hb7).new 27 (b8s (zb 8)).toArray rfl); clear hb7)
        | (refine at_store 27 (by rfl) ?_; refine wpList_put8 HF7.out 2 rfl rfl rfl (zb_length _) HLD.out rfl rfl ?_; intro w8 h8; have HF8 := hid h8; clear h8)
        | (refine at_store 29 (by rfl) ?_; refine wpList_putCv HF8.out 0 (t := zb 16) (x := zb 8) (p := zb 8) (k := 0) rfl rfl rfl okc_zero okc_zero rfl rfl ?_; intro w9 h9; have HF9 := hid h9; clear h9)
        | (refine at_load 27 (by rfl) ?_; refine wpList_loadE rfl rfl (HF8.out.load8 2 rfl HLD.out) rfl ?_)
        | (refine at_store 27 (by rfl) ?_; refine wpList_putP HF8.out 1 rfl rfl rfl HI.out HLD.out rfl rfl ?_; intro w8' h8; have HFp := hid h8; clear h8)
        | (refine at_load 29 (by rfl) ?_; refine wpList_loadE rfl rfl (HFp.out.loadCv 1 rfl ⟨HI.out.1, HI.out.2.1, HLD.out⟩) rfl ?_)
        | (refine at_store 29 (by rfl) ?_; refine wpList_putCv HFp.out 0 rfl rfl rfl okc_zero ⟨HI.out.1, HI.out.2.1, HLD.out⟩ rfl rfl ?_; intro w9 h9; have HF9 := hid h9; clear h9))
      · have q : ic ≠ 0 := neq_yes (by assumption)
        exact bodyPost_ret (results_cv2 rfl _ _ _ _ _ _ _ _ _ rfl (HF9.out.get 0 rfl) Tryd.underlying29 rfl info_ctx okc_zero) rfl ⟨by rw [HBAD.out q]; rfl, HF9.out.bel⟩
      · have q : ic = 0 := neq_no (by assumption)
        have q2 : kc = 0 := beqi_yes (by assumption)
        exact bodyPost_ret (results_cv2 rfl _ _ _ _ _ _ _ _ _ rfl (HF9.out.get 0 rfl) Tryd.underlying29 rfl info_ctx okc_zero) rfl ⟨by rw [HO.out, show keepR (it, ix, ip, ik, ic) c = cxBad 3 by unfold keepR; rw [if_pos q, HK.out, if_pos q2]]; rfl, HF9.out.bel⟩
      · have q : ic = 0 := neq_no (by assumption)
        have q2 : kc ≠ 0 := beqi_no (by assumption)
        have q3 : dc ≠ 0 := neq_yes (by assumption)
        exact bodyPost_ret (results_cv2 rfl _ _ _ _ _ _ _ _ _ rfl (HF9.out.get 0 rfl) Tryd.underlying29 rfl info_ctx okc_zero) rfl ⟨by rw [HO.out, show keepR (it, ix, ip, ik, ic) c = (it, ix, ip, kc, 0) by unfold keepR; rw [if_pos q, HK.out, if_neg q2]]; unfold parR; rw [if_pos rfl, HDC.out, if_neg q3]; rfl, HF9.out.bel⟩
      · have q : ic = 0 := neq_no (by assumption)
        have q2 : kc ≠ 0 := beqi_no (by assumption)
        have q3 : dc = 0 := neq_no (by assumption)
        exact bodyPost_ret (results_cv2 rfl _ _ _ _ _ _ _ _ _ rfl (HF9.out.get 0 rfl) Tryd.underlying29 rfl info_ctx ⟨HI.out.1, HI.out.2.1, HLD.out⟩) rfl ⟨by rw [HO.out, show keepR (it, ix, ip, ik, ic) c = (it, ix, ip, kc, 0) by unfold keepR; rw [if_pos q, HK.out, if_neg q2]]; unfold parR; rw [if_pos rfl, HDC.out, if_pos q3]; rfl, HF9.out.bel⟩
end Go.Proofs.YtgfdmdikiickpaaDoor
