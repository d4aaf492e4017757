/-
  Texts for the laws of this seat, merged: BthreeLaw, OpenStr, BthreeRd.
-/
import Derived.Test.YtgfdmdikiickpaaDoorMA
import Derived.Test.YtgfdmdikiickpaaDoorMH
import Derived.Test.YtgfdmdikiickpaaDoorMJ
import Derived.Test.YtgfdmdikiickpaaDoorMN
import Derived.Test.YtgfdmdikiickpaaDoorMQ
import Derived.Test.YtgfdmdikiickpaaDoorMR
/-! BthreeLaw -/
namespace Go.Proofs.YtgfdmdikiickpaaDoor
open Go.RowKit

def bT0 : List UInt8 := [0, 0, 0, 0, 0, 0, 0, 0, 128, 241, 152, 238, 86, 52, 59, 168]
def bX0 : List UInt8 := [228, 87, 181, 162, 228, 216, 107, 209]
def bS0 : List UInt8 := [56, 48, 102, 49, 57, 56, 101, 101, 53, 54, 51, 52, 51, 98, 97, 56, 45, 101, 52, 53, 55, 98, 53, 97, 50, 101, 52, 100, 56, 54, 98, 100, 49, 45, 100]
def bE0 : List UInt8 := [48, 48, 48, 48, 48, 48, 48, 48, 48, 48, 48, 48, 48, 48, 48, 48, 56, 48, 102, 49, 57, 56, 101, 101, 53, 54, 51, 52, 51, 98, 97, 56]
def bD0 : List UInt8 := [101, 52, 53, 55, 98, 53, 97, 50, 101, 52, 100, 56, 54, 98, 100, 49]
theorem bok : Okc bT0 bX0 (zb 8) := ⟨rfl, rfl, zb_length 8⟩
theorem bread0 (w : World) : Calls Tryd.prog 9 #[Sv bS0] w fun e w' => e = .returned (.tuple #[Cv bT0 bX0 (zb 8) 3, .int .i64 0]) ∧ Below w.heap.size w w' := by
  have h := breadone_any bS0 w (by decide)
  rw [show oneR bS0 = (bT0, bX0, zb 8, 3, 0) by decide +kernel] at h
  exact h
theorem bread1 (w : World) : Calls Tryd.prog 9 #[Sv [49, 45, 50, 45, 51]] w fun e w' => e = .returned (.tuple #[Cv (zb 16) (zb 8) (zb 8) 0, .int .i64 3]) ∧ Below w.heap.size w w' := by
  have h := breadone_any [49, 45, 50, 45, 51] w (by decide)
  rw [show oneR [49, 45, 50, 45, 51] = cxBad 3 by decide +kernel] at h
  exact h
theorem bread2 (w : World) : Calls Tryd.prog 9 #[Sv []] w fun e w' => e = .returned (.tuple #[Cv (zb 16) (zb 8) (zb 8) 0, .int .i64 3]) ∧ Below w.heap.size w w' := by
  have h := breadone_any [] w (by decide)
  rw [show oneR [] = cxBad 3 by decide +kernel] at h
  exact h
theorem bread3 (w : World) : Calls Tryd.prog 9 #[Sv [48]] w fun e w' => e = .returned (.tuple #[Cv (zb 16) (zb 8) (zb 8) 1, .int .i64 0]) ∧ Below w.heap.size w w' := by
  have h := breadone_any [48] w (by decide)
  rw [show oneR [48] = (zb 16, zb 8, zb 8, 1, 0) by decide +kernel] at h
  exact h
def bM0 : Mu := (bE0, bD0, [], [], [49])
theorem btext0 (w : World) : Calls Tryd.prog 16 #[Cv bT0 bX0 (zb 8) 3] w fun e w' => e = .returned (Mv bM0) ∧ Below w.heap.size w w' := by
  have h := btextmulti_any bT0 bX0 (zb 8) 3 w bok
  rw [show multiT bT0 bX0 (zb 8) 3 = bM0 by decide +kernel] at h
  exact h
theorem bmul0 (w : World) : Calls Tryd.prog 11 #[Mv bM0] w fun e w' => e = .returned (.tuple #[Cv bT0 bX0 (zb 8) 3, .int .i64 0]) ∧ Below w.heap.size w w' := by
  have h := breadmulti_any bM0 w ⟨by decide, by decide, by decide⟩
  rw [show multiR bM0 = (bT0, bX0, zb 8, 3, 0) by decide +kernel] at h
  exact h
def bM1 : Mu := ([], bD0, [], [], [])
theorem bmul1 (w : World) : Calls Tryd.prog 11 #[Mv bM1] w fun e w' => e = .returned (.tuple #[Cv (zb 16) (zb 8) (zb 8) 0, .int .i64 9]) ∧ Below w.heap.size w w' := by
  have h := breadmulti_any bM1 w ⟨by decide, by decide, by decide⟩
  rw [show multiR bM1 = cxBad 9 by decide +kernel] at h
  exact h
def bO0 : List UInt8 := [48, 48, 48, 48, 48, 48, 48, 48, 48, 48, 48, 48, 48, 48, 48, 48, 56, 48, 102, 49, 57, 56, 101, 101, 53, 54, 51, 52, 51, 98, 97, 56, 45, 101, 52, 53, 55, 98, 53, 97, 50, 101, 52, 100, 56, 54, 98, 100, 49, 45, 100]
theorem bone0 (w : World) : Calls Tryd.prog 14 #[Cv bT0 bX0 (zb 8) 3] w fun e w' => e = .returned (Sv bO0) ∧ Below w.heap.size w w' := by
  have h := btextone_any bT0 bX0 (zb 8) 3 w bok
  rw [show oneT bT0 bX0 (zb 8) 3 = bO0 by decide +kernel] at h
  exact h
theorem bone1 (w : World) : Calls Tryd.prog 14 #[.agg #[.int .u8 0, .int .u8 0, .int .u8 0, .int .u8 0, .int .u8 0, .int .u8 0, .int .u8 0, .int .u8 0, .int .u8 0, .int .u8 0, .int .u8 0, .int .u8 0, .int .u8 0, .int .u8 0, .int .u8 0, .int .u8 0, .int .u8 0, .int .u8 0, .int .u8 0, .int .u8 0, .int .u8 0, .int .u8 0, .int .u8 0, .int .u8 0, .int .u8 0, .int .u8 0, .int .u8 0, .int .u8 0, .int .u8 0, .int .u8 0, .int .u8 0, .int .u8 0, .int .i64 2]] w fun e w' => e = .returned (Sv [49]) ∧ Below w.heap.size w w' := by
  have h := btextone_any (zb 16) (zb 8) (zb 8) 2 w okc_zero
  rw [show oneT (zb 16) (zb 8) (zb 8) 2 = [49] by decide +kernel] at h
  exact h
theorem bone2 (w : World) : Calls Tryd.prog 14 #[.agg #[.int .u8 0, .int .u8 0, .int .u8 0, .int .u8 0, .int .u8 0, .int .u8 0, .int .u8 0, .int .u8 0, .int .u8 0, .int .u8 0, .int .u8 0, .int .u8 0, .int .u8 0, .int .u8 0, .int .u8 0, .int .u8 0, .int .u8 0, .int .u8 0, .int .u8 0, .int .u8 0, .int .u8 0, .int .u8 0, .int .u8 0, .int .u8 0, .int .u8 0, .int .u8 0, .int .u8 0, .int .u8 0, .int .u8 0, .int .u8 0, .int .u8 0, .int .u8 0, .int .i64 0]] w fun e w' => e = .returned (Sv []) ∧ Below w.heap.size w w' := by
  have h := btextone_any (zb 16) (zb 8) (zb 8) 0 w okc_zero
  rw [show oneT (zb 16) (zb 8) (zb 8) 0 = [] by decide +kernel] at h
  exact h
set_option maxRecDepth 100000 in
set_option maxHeartbeats 4000000 in
theorem bworks_any (w : World) : Calls Tryd.prog 13 #[] w fun e w' => e = .returned (.bool true) ∧ Below w.heap.size w w' := by
  have HF := hid (Frm.start w)
  go_enter Tryd.func13, Tryd.ntmps13
  go_upto_region 2 with (first
    | (go_at_call 9; refine (bread0 _).mono ?_; rintro e w1 ⟨rfl, hb1⟩; have HF1 := hid ((HF.out.call hb1).new0 29 rfl); clear hb1)
    | (refine at_store 29 (by rfl) ?_; refine wpList_putCv HF1.out 0 rfl rfl rfl okc_zero bok rfl rfl ?_; intro w2 h2; have HF2 := hid h2; clear h2))
  go_upto_region 3 with (first
    | (go_at_call 9; refine (bread1 _).mono ?_; rintro e w3 ⟨rfl, hb3⟩; have HF3 := hid ((HF2.out.call hb3).new0 29 rfl); clear hb3)
    | (refine at_store 29 (by rfl) ?_; refine wpList_putCv HF3.out 1 rfl rfl rfl okc_zero okc_zero rfl rfl ?_; intro w4 h4; have HF4 := hid h4; clear h4))
  go_upto_region 4 with (first
    | (go_at_call 9; refine (bread2 _).mono ?_; rintro e w5 ⟨rfl, hb5⟩; have HF5 := hid ((HF4.out.call hb5).new0 29 rfl); clear hb5)
    | (refine at_store 29 (by rfl) ?_; refine wpList_putCv HF5.out 2 rfl rfl rfl okc_zero okc_zero rfl rfl ?_; intro w6 h6; have HF6 := hid h6; clear h6))
  go_upto_region 5 with (first
    | (go_at_call 9; refine (bread3 _).mono ?_; rintro e w7 ⟨rfl, hb7⟩; have HF7 := hid ((HF6.out.call hb7).new0 29 rfl); clear hb7)
    | (refine at_store 29 (by rfl) ?_; refine wpList_putCv HF7.out 3 rfl rfl rfl okc_zero okc_zero rfl rfl ?_; intro w8 h8; have HF8 := hid h8; clear h8))
  go_upto_region 6 with (first
    | (refine at_load 29 (by rfl) ?_; refine wpList_loadE rfl rfl (HF8.out.loadCv 0 rfl bok) rfl ?_)
    | (go_at_call 16; refine (btext0 _).mono ?_; rintro e w9 ⟨rfl, hb9⟩; have HF9 := hid ((HF8.out.call hb9).new 34 (mc muNone) rfl); clear hb9)
    | (refine at_store 34 (by rfl) ?_; refine wpList_putM HF9.out 4 muNone bM0 rfl rfl rfl rfl rfl ?_; intro wa ha; have HFa := hid ha; clear ha))
  go_upto_region 7 with (first
    | (refine at_load 34 (by rfl) ?_; refine wpList_loadE rfl rfl (HFa.out.loadMv (m := bM0) 4 rfl) rfl ?_)
    | (go_at_call 11; refine (bmul0 _).mono ?_; rintro e wb ⟨rfl, hbb⟩; have HFb := hid ((HFa.out.call hbb).new0 29 rfl); clear hbb)
    | (refine at_store 29 (by rfl) ?_; refine wpList_putCv HFb.out 5 rfl rfl rfl okc_zero bok rfl rfl ?_; intro wc hc'; have HFc := hid hc'; clear hc'))
  go_upto_region 8 with (first
    | (go_at_call 11; refine (bmul1 _).mono ?_; rintro e wd ⟨rfl, hbd⟩; have HFd := hid ((HFc.out.call hbd).new0 29 rfl); clear hbd)
    | (refine at_store 29 (by rfl) ?_; refine wpList_putCv HFd.out 6 rfl rfl rfl okc_zero okc_zero rfl rfl ?_; intro we he; have HFe := hid he; clear he))
  have c0 := HFe.out.cellK 0 rfl bok
  have c3 := HFe.out.cellK 3 rfl okc_zero
  obtain ⟨m0, m1, m2, m3, m4⟩ := HFe.out.mcells 4 (m := bM0) rfl
  unfold bM0 at m0 m1 m2 m3 m4
  simp only at m0 m1 m2 m3 m4
  have qE : (bE0 == [48, 48, 48, 48, 48, 48, 48, 48, 48, 48, 48, 48, 48, 48, 48, 48, 56, 48, 102, 49, 57, 56, 101, 101, 53, 54, 51, 52, 51, 98, 97, 56]) = true := by decide
  have qO : (bO0 == [48, 48, 48, 48, 48, 48, 48, 48, 48, 48, 48, 48, 48, 48, 48, 48, 56, 48, 102, 49, 57, 56, 101, 101, 53, 54, 51, 52, 51, 98, 97, 56, 45, 101, 52, 53, 55, 98, 53, 97, 50, 101, 52, 100, 56, 54, 98, 100, 49, 45, 100]) = true := by decide
  have qC := fun u => run_eq_cv u 3 3 bT0 bX0 (zb 8) bT0 bX0 (zb 8) bok.1 bok.2.1 bok.2.2 bok.1 bok.2.1 bok.2.2
  simp only [cvq_self] at qC
  go_wp2_with (first
    | (refine at_load 29 (by rfl) ?_; refine wpList_loadW (by rfl) rfl (HFe.out.loadCv 5 rfl bok) rfl ?_)
    | (refine at_load 29 (by rfl) ?_; refine wpList_loadW (by rfl) rfl (HFe.out.loadCv 0 rfl bok) rfl ?_)
    | (go_at_call 14; (with_reducible refine (bone0 _).mono ?_); rintro e wf ⟨rfl, hbf⟩; have HFf := hid (HFe.out.call hbf); clear hbf)
    | (go_at_call 14; (with_reducible refine (bone1 _).mono ?_); rintro e wg ⟨rfl, hbg⟩; have HFg := hid (HFf.out.call hbg); clear hbg)
    | (go_at_call 14; (with_reducible refine (bone2 _).mono ?_); rintro e wh ⟨rfl, hbh⟩; have HFh := hid (HFg.out.call hbh); clear hbh))
  go_ret
  exact ⟨rfl, HFh.out.bel⟩
end Go.Proofs.YtgfdmdikiickpaaDoor

/-! OpenStr -/
namespace Go.Proofs.YtgfdmdikiickpaaDoor
open Go.ChangeShapes Go.WideShapes Go.RowKit Go.ChangeAt

set_option maxRecDepth 100000 in
theorem open_strs {H : Type} {enc : TypeId × Value → H} {W : World} {base : Nat} {v : Value} {d : DataW H} {p : List MemPlace} {T : TypeId} {fs : Array Field} (n : Nat) (hu : Tryd.prog.underlying T = some (.struct fs))
    (hF : (Tryd.prog.fieldsOf T).toList.map (fun f => (f.name == "_", f.type, f.offset)) = (List.range n).map fun i => (false, 9, i)) (hc : Tryd.prog.cellsOf T = n) (hc1 : Tryd.prog.cellsOf 9 = 1)
    (hv : Value.okWide Tryd.prog W .any base T v) (h : DataW.Trod enc Tryd.prog W 0 (fun _ => true) true T v d p) :
    ∃ l : List (List UInt8), l.length = n ∧ v = .agg (l.map Sv).toArray ∧ d = .agg (l.map fun s => .lit (.string s)) := by
  obtain ⟨cs, rfl, _⟩ := WideShapes.okWide_struct hu hv
  obtain ⟨fuel, hf⟩ := h
  obtain ⟨ys, m, _, hx, hlen, hyl, hfs⟩ := DataW.trod_struct hu hf
  simp only [Prod.mk.injEq] at hx
  rw [hc] at hlen
  have hs : (Tryd.prog.fieldsOf T).size = n := by
    have := congrArg List.length hF
    simpa using this
  have hfse : Tryd.prog.fieldsOf T = fs := by unfold Program.fieldsOf; rw [hu]
  have hall : ∀ i, i < n → ∃ s : List UInt8, cs.toList[i]? = some (Sv s) ∧ ys[i]? = some (.lit (.string s), []) := by
    intro i hin
    obtain ⟨f, e, t0, o0⟩ := field_at (T := T) (i := i) (ty := 9) (off := i) (by rw [hF]; simp [hin])
    rw [hfse] at e
    have h1 := hfs i f e
    rw [t0, o0, hc1] at h1
    have hli : i < ys.length := by rw [hyl, ← hfse, hs]; exact hin
    rw [List.getElem?_eq_getElem hli] at h1
    obtain ⟨s, es, ey, _⟩ := DataW.trod_string Tryd.underlying9 h1
    refine ⟨s.data.toList, ?_, by rw [List.getElem?_eq_getElem hli, ey]⟩
    have hlt : i < cs.toList.length := by
      have : (Value.agg cs).cells.toList.length = cs.toList.length := rfl
      omega
    have es' : (cs.toList.drop i).take 1 = [.string s] := es
    rw [List.drop_eq_getElem_cons hlt, List.take_succ_cons, List.take_zero] at es'
    rw [List.getElem?_eq_getElem hlt]
    exact congrArg some (List.cons.inj es').1
  refine ⟨(List.range n).map (fun i => if hi : i < n then Classical.choose (hall i hi) else []), by simp, ?_, ?_⟩
  · congr 1
    apply Array.ext'
    apply List.ext_getElem?
    intro i
    by_cases hin : i < n
    · rw [(Classical.choose_spec (hall i hin)).1]
      simp [hin]
    · have : (Value.agg cs).cells.toList.length = cs.toList.length := rfl
      rw [List.getElem?_eq_none (by omega), List.getElem?_eq_none (by simpa using hin)]
  · rw [hx.1]
    congr 1
    apply List.ext_getElem?
    intro i
    by_cases hin : i < n
    · rw [List.getElem?_map, (Classical.choose_spec (hall i hin)).2]
      simp [hin]
    · rw [List.getElem?_eq_none (by rw [List.length_map, hyl, ← hfse, hs]; omega), List.getElem?_eq_none (by simpa using hin)]
set_option maxRecDepth 100000 in
theorem str_sized {H : Type} {ts : List TypeId} {ds : List (DataW H)} (h : (DataW.weightsEach Tryd.prog ts ds).all (· ≤ reachBytes) = true) {j : Nat} {T : TypeId} {fs : Array Field} (n : Nat) (hu : Tryd.prog.underlying T = some (.struct fs)) (hT : fs.toList.map (·.type) = List.replicate n 9) (ht : ts[j]? = some T) {l : List (List UInt8)} (hl : l.length = n) (hd : ds[j]? = some (.agg (l.map fun s => .lit (.string s)))) :
    ∀ s ∈ l, s.length ≤ 140737488355328 := by
  intro s hs
  have hb := reachBytes_lt
  have key : ∀ (k : Nat) (m : List (List UInt8)), m.length = k → ∀ s ∈ m, s.length ∈ DataW.weightsEach Tryd.prog (List.replicate k 9) (m.map fun s => (.lit (.string s) : DataW H)) := by
    intro k
    induction k with
    | zero => intro m hm s hs; rw [List.eq_nil_of_length_eq_zero hm] at hs; cases hs
    | succ k ih =>
      intro m hm s hs
      cases m with
      | nil => cases hs
      | cons a r =>
        rw [List.replicate_succ, List.map_cons]
        unfold DataW.weightsEach
        rcases List.mem_cons.1 hs with rfl | hs
        · exact List.mem_append_left _ (by unfold DataW.weights; simp)
        · exact List.mem_append_right _ (ih r (by simpa using hm) s hs)
  have h1 : s.length ∈ DataW.weights Tryd.prog T (.agg (l.map fun s => .lit (.string s)) : DataW H) := by
    unfold DataW.weights
    rw [hu]
    simp only
    rw [hT]
    exact key n l hl s hs
  have := List.all_eq_true.1 h _ (DataW.weights_mem_each ht hd _ h1)
  have : s.length ≤ reachBytes := by simpa using this
  omega
def OfMu {H : Type} (d : DataW H) (m : List UInt8 × List UInt8 × List UInt8 × List UInt8 × List UInt8) : Prop := d = .agg ([m.1, m.2.1, m.2.2.1, m.2.2.2.1, m.2.2.2.2].map fun s => .lit (.string s))
set_option maxRecDepth 100000 in
theorem open_truchmanref45Multi {H : Type} {enc : TypeId × Value → H} {W : World} {base : Nat} {v : Value} {d : DataW H} {p : List MemPlace}
    (hv : Value.okWide Tryd.prog W .any base 23 v) (h : DataW.Trod enc Tryd.prog W 0 (fun _ => true) true 23 v d p) :
    ∃ m : List UInt8 × List UInt8 × List UInt8 × List UInt8 × List UInt8, (v = .agg #[Sv m.1, Sv m.2.1, Sv m.2.2.1, Sv m.2.2.2.1, Sv m.2.2.2.2]) ∧ OfMu d m := by
  obtain ⟨l, hl, hv', hd⟩ := open_strs 5 Tryd.underlying23 (by kernel_rfl) (by kernel_rfl) (by kernel_rfl) hv h
  match l, hl with
  | [a, b, c, e, f], _ => exact ⟨(a, b, c, e, f), hv', hd⟩
end Go.Proofs.YtgfdmdikiickpaaDoor

/-! BthreeRd -/
namespace Go.Proofs.YtgfdmdikiickpaaDoor
open Go.RowKit

set_option maxRecDepth 100000 in
set_option maxHeartbeats 8000000 in
theorem bthreeReads_any (s : List UInt8) (m : Mu) (w : World) (hs : s.length ≤ 1048576) (hm : shortM m) :
    Calls Tryd.prog 3 #[Sv s, Mv m] w fun e w' => e = .returned (.bool true) ∧ Below w.heap.size w w' := by
  have c1 := fun u => breadone_any s u (by omega)
  have c2 := fun u => rreadone_any s u hs
  have c3 := fun u => breadmulti_any m u hm
  have c4 := fun u => rreadmulti_any m u hm
  have hlo : lenOk (oneR s) := lenOk_one _
  have hlm := lenOk_multi m
  generalize oneR s = r at c1 c2 hlo
  generalize multiR m = q at c3 c4 hlm
  obtain ⟨t, x, p, k, cd⟩ := r
  obtain ⟨t', x', p', k', cd'⟩ := q
  have HA := hid (show Okc t x p from hlo)
  have HB := hid (show Okc t' x' p' from hlm)
  unfold cxOut at c1 c2 c3 c4
  simp only at c1 c2 c3 c4
  obtain ⟨a, b, d, e, f⟩ := m
  have hF0 : Frm w _ [(w.heap.size, 23, mc (a, b, d, e, f))] := (Frm.start w).new 23 (mc (a, b, d, e, f)) rfl
  have HF := hid hF0
  have qC := fun u => run_eq_cv u k k t x p t x p HA.out.1 HA.out.2.1 HA.out.2.2 HA.out.1 HA.out.2.1 HA.out.2.2
  have qD := fun u => run_eq_cv u k' k' t' x' p' t' x' p' HB.out.1 HB.out.2.1 HB.out.2.2 HB.out.1 HB.out.2.1 HB.out.2.2
  simp only [cvq_self] at qC qD
  clear hlo hlm hm hs hF0
  unfold Mv
  simp only
  go_enter Tryd.func3, Tryd.ntmps3
  go_upto_region 2 with (first
    | (go_at_call 9; refine (c1 _).mono ?_; rintro e w1 ⟨rfl, hb1⟩; have HF1 := hid ((HF.out.call hb1).new0 29 rfl); clear hb1)
    | (refine at_store 29 (by rfl) ?_; refine wpList_putCv HF1.out 1 rfl rfl rfl okc_zero HA.out rfl rfl ?_; intro w2 h2; have HF2 := hid h2; clear h2))
  go_upto_region 3 with (first
    | (go_at_call 10; refine (c2 _).mono ?_; rintro e w3 ⟨rfl, hb3⟩; have HF3 := hid ((HF2.out.call hb3).new0 29 rfl); clear hb3)
    | (refine at_store 29 (by rfl) ?_; refine wpList_putCv HF3.out 2 rfl rfl rfl okc_zero HA.out rfl rfl ?_; intro w4 h4; have HF4 := hid h4; clear h4))
  go_upto_region 4 with (first
    | (refine at_load 23 (by rfl) ?_; refine wpList_loadE rfl rfl (HF4.out.loadNv (m := (a, b, d, e, f)) 0 rfl) rfl ?_)
    | (go_at_call 11; refine (c3 _).mono ?_; rintro e w5 ⟨rfl, hb5⟩; have HF5 := hid ((HF4.out.call hb5).new0 29 rfl); clear hb5)
    | (refine at_store 29 (by rfl) ?_; refine wpList_putCv HF5.out 3 rfl rfl rfl okc_zero HB.out rfl rfl ?_; intro w6 h6; have HF6 := hid h6; clear h6))
  go_upto_region 5 with (first
    | (refine at_load 23 (by rfl) ?_; refine wpList_loadE rfl rfl (HF6.out.loadNv (m := (a, b, d, e, f)) 0 rfl) rfl ?_)
    | (go_at_call 12; refine (c4 _).mono ?_; rintro e w7 ⟨rfl, hb7⟩; have HF7 := hid ((HF6.out.call hb7).new0 29 rfl); clear hb7)
    | (refine at_store 29 (by rfl) ?_; refine wpList_putCv HF7.out 4 rfl rfl rfl okc_zero HB.out rfl rfl ?_; intro w8 h8; have HF8 := hid h8; clear h8))
  go_wp2_with (first
    | (refine at_load 29 (by rfl) ?_; refine wpList_loadE rfl rfl (HF8.out.loadCv 1 rfl HA.out) rfl ?_)
    | (refine at_load 29 (by rfl) ?_; refine wpList_loadE rfl rfl (HF8.out.loadCv 2 rfl HA.out) rfl ?_)
    | (refine at_load 29 (by rfl) ?_; refine wpList_loadW (by rfl) rfl (HF8.out.loadCv 3 rfl HB.out) rfl ?_)
    | (refine at_load 29 (by rfl) ?_; refine wpList_loadW (by rfl) rfl (HF8.out.loadCv 4 rfl HB.out) rfl ?_)
    | (go_at_call 13; refine (bworks_any _).mono ?_; rintro e w9 ⟨rfl, hb9⟩; have HF9 := hid (HF8.out.call hb9); clear hb9))
  go_ret
  exact ⟨rfl, HF9.out.bel⟩
end Go.Proofs.YtgfdmdikiickpaaDoor
