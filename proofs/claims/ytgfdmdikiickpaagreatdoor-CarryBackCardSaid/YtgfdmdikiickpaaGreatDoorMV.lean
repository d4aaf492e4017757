/-
  Texts for the laws of this seat, merged: OpenArr, OpenName, OpenHdr, OpenStr, CarryQ.
-/
import Derived.Test.YtgfdmdikiickpaaGreatDoorMT
/-! OpenArr -/
namespace Go.Proofs.YtgfdmdikiickpaaGreatDoor
open Go.ChangeShapes Go.WideShapes Go.ChangeAt Go.RowKit

theorem mapM_each {α β : Type} {f : α → Option β} : ∀ {l : List α} {ys : List β}, l.mapM f = some ys → ∀ a ∈ l, ∃ y, f a = some y
  | [], _, _ => fun a h => absurd h (by simp)
  | b :: l, ys, h => by
    rw [List.mapM_cons] at h
    intro a ha
    cases hb : f b with
    | none => rw [hb] at h; cases h
    | some y =>
      rw [hb] at h
      cases hl : l.mapM f with
      | none => rw [hl] at h; cases h
      | some zs =>
        rcases List.mem_cons.1 ha with rfl | ha
        · exact ⟨y, hb⟩
        · exact mapM_each hl a ha
theorem trod_array_each {H : Type} {enc : TypeId × Value → H} {P : Program} {w : World} {base : Nat} {spare : Nat → Bool} {held : Bool} {fuel n : Nat} {t e : TypeId} {cs : List Value} {x : DataW H × List MemPlace}
    (ht : P.underlying t = some (.array n e)) (h : DataW.trod enc P w base spare held fuel t cs = some x) :
    ∃ m, cs.length = P.cellsOf t ∧ ∀ i, i < n → ∃ y, DataW.trod enc P w base spare held m e ((cs.drop (i * P.cellsOf e)).take (P.cellsOf e)) = some y := by
  cases fuel with
  | zero => simp [DataW.trod] at h
  | succ m =>
    unfold DataW.trod at h
    rw [ht] at h
    simp only [] at h
    split at h
    · rename_i hl
      refine ⟨m, hl, fun i hi => ?_⟩
      cases hm : (List.range n).mapM (fun i => DataW.trod enc P w base spare held m e ((cs.drop (i * P.cellsOf e)).take (P.cellsOf e))) with
      | none => rw [hm] at h; cases h
      | some xs => exact mapM_each hm i (by simpa using hi)
    · cases h
theorem okWide_array {P : Program} {w : World} {r : Reach} {base n : Nat} {t e : TypeId} {v : Value} (ht : P.underlying t = some (.array n e)) (h : Value.okWide P w r base t v) : ∃ cs, v = .agg cs ∧ cs.size = P.cellsOf t := by
  unfold Value.okWide at h
  rw [ht] at h
  obtain ⟨cs, rfl, hs, _⟩ := h
  exact ⟨cs, rfl, hs⟩
theorem open_arr {H : Type} {enc : TypeId × Value → H} {P : Program} {W : World} {base n : Nat} {t e : TypeId} {k : IntKind} {v : Value} {d : DataW H} {p : List MemPlace}
    (ht : P.underlying t = some (.array n e)) (he : P.underlying e = some (.int k)) (hce : P.cellsOf e = 1) (hct : P.cellsOf t = n)
    (hv : Value.okWide P W .any base t v) (h : DataW.Trod enc P W 0 (fun _ => true) true t v d p) :
    ∃ l : List Int, l.length = n ∧ v = .agg (l.map (Value.int k)).toArray ∧ ∀ x ∈ l, (Lit.int k x).wf = true := by
  obtain ⟨cs, rfl, hsz⟩ := okWide_array ht hv
  obtain ⟨fuel, hf⟩ := h
  obtain ⟨m, hl, hi⟩ := trod_array_each ht hf
  have hcs : (Value.agg cs).cells.toList = cs.toList := rfl
  rw [hcs] at hi
  have hall : ∀ i, i < n → ∃ z : Int, cs.toList[i]? = some (.int k z) ∧ (Lit.int k z).wf = true := by
    intro i hin
    obtain ⟨y, hy⟩ := hi i hin
    rw [hce, Nat.mul_one] at hy
    have hlt : i < cs.toList.length := by rw [Array.length_toList]; omega
    rw [List.drop_eq_getElem_cons hlt, List.take_succ_cons, List.take_zero] at hy
    obtain ⟨z, e1, _, wz⟩ := DataW.trod_int he hy
    refine ⟨z, ?_, wz⟩
    rw [List.getElem?_eq_getElem hlt]
    simpa using e1
  refine ⟨(List.range n).map (fun i => if hi : i < n then Classical.choose (hall i hi) else 0), by simp, ?_, ?_⟩
  · congr 1
    apply Array.ext'
    apply List.ext_getElem?
    intro i
    by_cases hin : i < n
    · rw [(Classical.choose_spec (hall i hin)).1]
      simp [hin]
    · rw [List.getElem?_eq_none (by rw [Array.length_toList]; omega), List.getElem?_eq_none (by simpa using hin)]
  · intro x hx
    obtain ⟨i, hi', rfl⟩ := List.mem_map.1 hx
    have hin : i < n := by simpa using hi'
    simp only [dif_pos hin]
    exact (Classical.choose_spec (hall i hin)).2
theorem int_bd64 {z : Int} (h : (Lit.int .i64 z).wf = true) : -9223372036854775808 ≤ z ∧ z ≤ 9223372036854775807 := by
  simpa [Lit.wf, IntKind.min, IntKind.max, IntKind.signed, IntKind.bits] using h
theorem int_bd8 {z : Int} (h : (Lit.int .u8 z).wf = true) : 0 ≤ z ∧ z ≤ 255 := by
  simpa [Lit.wf, IntKind.min, IntKind.max, IntKind.signed, IntKind.bits] using h
end Go.Proofs.YtgfdmdikiickpaaGreatDoor

/-! OpenName -/
namespace Go.Proofs.YtgfdmdikiickpaaGreatDoor
open Go.ChangeShapes Go.WideShapes Go.RowKit Go.ChangeAt

theorem bytes_of_trodN {H : Type} {enc : TypeId × Value → H} {P : Program} {w : World} {base : Nat} {spare : Nat → Bool} {held : Bool} {fuel n : Nat} {t e : TypeId} {cs : List Value} {x : DataW H × List MemPlace}
    (ht : P.underlying t = some (.array n e)) (he : P.underlying e = some (.int .u8)) (hce : P.cellsOf e = 1) (hct : P.cellsOf t = n) (h : DataW.trod enc P w base spare held fuel t cs = some x) :
    ∃ l : List UInt8, l.length = n ∧ cs = b8s l := by
  obtain ⟨m, hl, hi⟩ := trod_array_each ht h
  rw [hct] at hl
  have hall : ∀ i, i < n → ∃ z : Int, cs[i]? = some (.int .u8 z) ∧ 0 ≤ z ∧ z ≤ 255 := by
    intro i hin
    obtain ⟨y, hy⟩ := hi i hin
    rw [hce, Nat.mul_one] at hy
    have hlt : i < cs.length := by omega
    rw [List.drop_eq_getElem_cons hlt, List.take_succ_cons, List.take_zero] at hy
    obtain ⟨z, e1, _, wz⟩ := DataW.trod_int he hy
    refine ⟨z, ?_, int_bd8 wz⟩
    rw [List.getElem?_eq_getElem hlt]
    simpa using e1
  refine ⟨(List.range n).map (fun i => if hi : i < n then bt (Classical.choose (hall i hi)) else 0), by simp, ?_⟩
  apply List.ext_getElem?
  intro i
  by_cases hin : i < n
  · obtain ⟨h1, h2, h3⟩ := Classical.choose_spec (hall i hin)
    rw [h1]
    simp only [b8s, List.getElem?_map, List.getElem?_range hin, Option.map_some, dif_pos hin]
    rw [b8_bt _ h2 h3]
  · rw [List.getElem?_eq_none (by omega), List.getElem?_eq_none (by simpa using hin)]
set_option maxRecDepth 100000 in
theorem open_name {H : Type} {enc : TypeId × Value → H} {W : World} {base n : Nat} {t : TypeId} {v : Value} {d : DataW H} {p : List MemPlace} (ht : Tryz.prog.underlying t = some (.array n 5)) (hct : Tryz.prog.cellsOf t = n)
    (hv : Value.okWide Tryz.prog W .any base t v) (h : DataW.Trod enc Tryz.prog W 0 (fun _ => true) true t v d p) : ∃ l : List UInt8, (v = Av l ∧ l.length = n) ∧ True := by
  obtain ⟨cs, rfl, _⟩ := okWide_array ht hv
  obtain ⟨fuel, hf⟩ := h
  obtain ⟨l, hl, e⟩ := bytes_of_trodN ht Tryz.underlying5 (by kernel_rfl) hct hf
  refine ⟨l, ⟨?_, hl⟩, trivial⟩
  unfold Av
  congr 1
  exact Array.ext' (by rw [show cs.toList = b8s l from e])
set_option maxRecDepth 100000 in
theorem open_apiTraceID {H : Type} {enc : TypeId × Value → H} {W : World} {base : Nat} {v : Value} {d : DataW H} {p : List MemPlace}
    (hv : Value.okWide Tryz.prog W .any base 27 v) (h : DataW.Trod enc Tryz.prog W 0 (fun _ => true) true 27 v d p) : ∃ l : List UInt8, (v = Av l ∧ l.length = 16) ∧ True :=
  open_name Tryz.underlying27 (by kernel_rfl) hv h
set_option maxRecDepth 100000 in
theorem open_apiSpanID {H : Type} {enc : TypeId × Value → H} {W : World} {base : Nat} {v : Value} {d : DataW H} {p : List MemPlace}
    (hv : Value.okWide Tryz.prog W .any base 29 v) (h : DataW.Trod enc Tryz.prog W 0 (fun _ => true) true 29 v d p) : ∃ l : List UInt8, (v = Av l ∧ l.length = 8) ∧ True :=
  open_name Tryz.underlying29 (by kernel_rfl) hv h
end Go.Proofs.YtgfdmdikiickpaaGreatDoor

/-! OpenHdr -/
namespace Go.Proofs.YtgfdmdikiickpaaGreatDoor
open Go.ChangeShapes Go.WideShapes Go.RowKit Go.ChangeAt

theorem split4 (cs : List Value) (a b c d : Nat) (h : cs.length = a + b + c + d) : cs = (cs.drop 0).take a ++ (cs.drop a).take b ++ (cs.drop (a + b)).take c ++ (cs.drop (a + b + c)).take d := by
  rw [List.drop_zero, ← List.take_add, ← List.take_add, ← List.take_add, List.take_of_length_le (by omega)]
theorem field_trod {H : Type} {enc : TypeId × Value → H} {w : World} {base : Nat} {spare : Nat → Bool} {held : Bool} {n i T ty off sz : Nat} {cs : List Value} {ys : List (DataW H × List MemPlace)}
    (hf : ∀ (j : Nat) (f : Field), (Tryz.prog.fieldsOf T)[j]? = some f → ys[j]? = DataW.trod enc Tryz.prog w base spare held n f.type ((cs.drop f.offset).take (Tryz.prog.cellsOf f.type)))
    (hl : i < ys.length) (hi : ((Tryz.prog.fieldsOf T).toList.map (fun f => (f.name == "_", f.type, f.offset)))[i]? = some (false, ty, off)) (hc : Tryz.prog.cellsOf ty = sz) :
    ∃ y, DataW.trod enc Tryz.prog w base spare held n ty ((cs.drop off).take sz) = some y := by
  obtain ⟨f, e, t0, o0⟩ := field_at hi
  have h := hf i f e
  rw [t0, o0, hc, List.getElem?_eq_getElem hl] at h
  exact ⟨_, h.symm⟩
set_option maxRecDepth 100000 in
theorem open_truchmanref43Header {H : Type} {enc : TypeId × Value → H} {W : World} {base : Nat} {v : Value} {d : DataW H} {p : List MemPlace}
    (hv : Value.okWide Tryz.prog W .any base 56 v) (h : DataW.Trod enc Tryz.prog W 0 (fun _ => true) true 56 v d p) :
    ∃ r : Int × List UInt8 × List UInt8 × Int, (v = Hv r.1 r.2.1 r.2.2.1 r.2.2.2 ∧ r.2.1.length = 16 ∧ r.2.2.1.length = 8 ∧ 0 ≤ r.2.2.2 ∧ r.2.2.2 ≤ 255) ∧ True := by
  obtain ⟨cs, rfl, _⟩ := WideShapes.okWide_struct und_rhdr hv
  obtain ⟨fuel, hf⟩ := h
  obtain ⟨ys, n, _, _, hlen, hyl, hfs⟩ := DataW.trod_struct und_rhdr hf
  have hsz : Tryz.prog.cellsOf 56 = 26 := by kernel_rfl
  have hs : (Tryz.prog.fieldsOf 56).size = 4 := by
    have := congrArg List.length fields_rhdr
    simpa using this
  rw [hsz] at hlen
  have hc16 : Tryz.prog.cellsOf 27 = 16 := by kernel_rfl
  have hc8 : Tryz.prog.cellsOf 29 = 8 := by kernel_rfl
  have hc1 : Tryz.prog.cellsOf 5 = 1 := by kernel_rfl
  have hfs' : ∀ (j : Nat) (f : Field), (Tryz.prog.fieldsOf 56)[j]? = some f → ys[j]? = DataW.trod enc Tryz.prog W 0 (fun _ => true) true n f.type (((Value.agg cs).cells.toList.drop f.offset).take (Tryz.prog.cellsOf f.type)) := fun j f hj => (hfs j f hj).symm
  obtain ⟨y0, h0⟩ := field_trod (i := 0) (ty := 5) (off := 0) (sz := 1) hfs' (by omega) (by rw [fields_rhdr]; rfl) hc1
  obtain ⟨y1, h1⟩ := field_trod (i := 1) (ty := 27) (off := 1) (sz := 16) hfs' (by omega) (by rw [fields_rhdr]; rfl) hc16
  obtain ⟨y2, h2⟩ := field_trod (i := 2) (ty := 29) (off := 17) (sz := 8) hfs' (by omega) (by rw [fields_rhdr]; rfl) hc8
  obtain ⟨y3, h3⟩ := field_trod (i := 3) (ty := 5) (off := 25) (sz := 1) hfs' (by omega) (by rw [fields_rhdr]; rfl) hc1
  have hsp := split4 (Value.agg cs).cells.toList 1 16 8 1 hlen
  obtain ⟨z0, e0, _, w0⟩ := DataW.trod_int Tryz.underlying5 h0
  obtain ⟨t, ht, e1⟩ := bytes_of_trodN Tryz.underlying27 Tryz.underlying5 hc1 hc16 h1
  obtain ⟨x, hx, e2⟩ := bytes_of_trodN Tryz.underlying29 Tryz.underlying5 hc1 hc8 h2
  obtain ⟨z3, e3, _, w3⟩ := DataW.trod_int Tryz.underlying5 h3
  rw [e0, e1, e2, e3] at hsp
  have hb := int_bd8 w3
  refine ⟨(z0, t, x, z3), ⟨?_, ht, hx, hb.1, hb.2⟩, trivial⟩
  unfold Hv
  congr 1
  exact Array.ext' (by rw [show cs.toList = _ from hsp]; simp [hc])
set_option maxRecDepth 100000 in
theorem open_apiContext {H : Type} {enc : TypeId × Value → H} {W : World} {base : Nat} {v : Value} {d : DataW H} {p : List MemPlace}
    (hv : Value.okWide Tryz.prog W .any base 31 v) (h : DataW.Trod enc Tryz.prog W 0 (fun _ => true) true 31 v d p) :
    ∃ r : List UInt8 × List UInt8 × List UInt8 × Int, (v = Cv r.1 r.2.1 r.2.2.1 r.2.2.2 ∧ r.1.length = 16 ∧ r.2.1.length = 8 ∧ r.2.2.1.length = 8 ∧ -9223372036854775808 ≤ r.2.2.2 ∧ r.2.2.2 ≤ 9223372036854775807) ∧ True := by
  obtain ⟨cs, rfl, _⟩ := WideShapes.okWide_struct und_ctx hv
  obtain ⟨fuel, hf⟩ := h
  obtain ⟨ys, n, _, _, hlen, hyl, hfs⟩ := DataW.trod_struct und_ctx hf
  have hsz : Tryz.prog.cellsOf 31 = 33 := by kernel_rfl
  have hs : (Tryz.prog.fieldsOf 31).size = 4 := by
    have := congrArg List.length fields_ctx
    simpa using this
  rw [hsz] at hlen
  have hc16 : Tryz.prog.cellsOf 27 = 16 := by kernel_rfl
  have hc8 : Tryz.prog.cellsOf 29 = 8 := by kernel_rfl
  have hc1 : Tryz.prog.cellsOf 5 = 1 := by kernel_rfl
  have hci : Tryz.prog.cellsOf 3 = 1 := by kernel_rfl
  have hfs' : ∀ (j : Nat) (f : Field), (Tryz.prog.fieldsOf 31)[j]? = some f → ys[j]? = DataW.trod enc Tryz.prog W 0 (fun _ => true) true n f.type (((Value.agg cs).cells.toList.drop f.offset).take (Tryz.prog.cellsOf f.type)) := fun j f hj => (hfs j f hj).symm
  obtain ⟨y0, h0⟩ := field_trod (i := 0) (ty := 27) (off := 0) (sz := 16) hfs' (by omega) (by rw [fields_ctx]; rfl) hc16
  obtain ⟨y1, h1⟩ := field_trod (i := 1) (ty := 29) (off := 16) (sz := 8) hfs' (by omega) (by rw [fields_ctx]; rfl) hc8
  obtain ⟨y2, h2⟩ := field_trod (i := 2) (ty := 29) (off := 24) (sz := 8) hfs' (by omega) (by rw [fields_ctx]; rfl) hc8
  obtain ⟨y3, h3⟩ := field_trod (i := 3) (ty := 3) (off := 32) (sz := 1) hfs' (by omega) (by rw [fields_ctx]; rfl) hci
  have hsp := split4 (Value.agg cs).cells.toList 16 8 8 1 hlen
  obtain ⟨t, ht, e0⟩ := bytes_of_trodN Tryz.underlying27 Tryz.underlying5 hc1 hc16 h0
  obtain ⟨s, hs', e1⟩ := bytes_of_trodN Tryz.underlying29 Tryz.underlying5 hc1 hc8 h1
  obtain ⟨q, hq, e2⟩ := bytes_of_trodN Tryz.underlying29 Tryz.underlying5 hc1 hc8 h2
  obtain ⟨z3, e3, _, w3⟩ := DataW.trod_int Tryz.underlying3 h3
  rw [e0, e1, e2, e3] at hsp
  have hb : -9223372036854775808 ≤ z3 ∧ z3 ≤ 9223372036854775807 := by simpa [Lit.wf, IntKind.min, IntKind.max, IntKind.signed, IntKind.bits] using w3
  refine ⟨(t, s, q, z3), ⟨?_, ht, hs', hq, hb.1, hb.2⟩, trivial⟩
  unfold Cv
  congr 1
  exact Array.ext' (by rw [show cs.toList = _ from hsp]; simp [cc])
end Go.Proofs.YtgfdmdikiickpaaGreatDoor

/-! OpenStr -/
namespace Go.Proofs.YtgfdmdikiickpaaGreatDoor
open Go.ChangeShapes Go.WideShapes Go.RowKit Go.ChangeAt

set_option maxRecDepth 100000 in
theorem open_strs {H : Type} {enc : TypeId × Value → H} {W : World} {base : Nat} {v : Value} {d : DataW H} {p : List MemPlace} {T : TypeId} {fs : Array Field} (n : Nat) (hu : Tryz.prog.underlying T = some (.struct fs))
    (hF : (Tryz.prog.fieldsOf T).toList.map (fun f => (f.name == "_", f.type, f.offset)) = (List.range n).map fun i => (false, 9, i)) (hc : Tryz.prog.cellsOf T = n) (hc1 : Tryz.prog.cellsOf 9 = 1)
    (hv : Value.okWide Tryz.prog W .any base T v) (h : DataW.Trod enc Tryz.prog W 0 (fun _ => true) true T v d p) :
    ∃ l : List (List UInt8), l.length = n ∧ v = .agg (l.map Sv).toArray ∧ d = .agg (l.map fun s => .lit (.string s)) := by
  obtain ⟨cs, rfl, _⟩ := WideShapes.okWide_struct hu hv
  obtain ⟨fuel, hf⟩ := h
  obtain ⟨ys, m, _, hx, hlen, hyl, hfs⟩ := DataW.trod_struct hu hf
  simp only [Prod.mk.injEq] at hx
  rw [hc] at hlen
  have hs : (Tryz.prog.fieldsOf T).size = n := by
    have := congrArg List.length hF
    simpa using this
  have hfse : Tryz.prog.fieldsOf T = fs := by unfold Program.fieldsOf; rw [hu]
  have hall : ∀ i, i < n → ∃ s : List UInt8, cs.toList[i]? = some (Sv s) ∧ ys[i]? = some (.lit (.string s), []) := by
    intro i hin
    obtain ⟨f, e, t0, o0⟩ := field_at (T := T) (i := i) (ty := 9) (off := i) (by rw [hF]; simp [hin])
    rw [hfse] at e
    have h1 := hfs i f e
    rw [t0, o0, hc1] at h1
    have hli : i < ys.length := by rw [hyl, ← hfse, hs]; exact hin
    rw [List.getElem?_eq_getElem hli] at h1
    obtain ⟨s, es, ey, _⟩ := DataW.trod_string Tryz.underlying9 h1
    refine ⟨s.data.toList, ?_, by rw [List.getElem?_eq_getElem hli, ey]⟩
    have hlt : i < cs.toList.length := by
      have : (Value.agg cs).cells.toList.length = cs.toList.length := rfl
      omega
    have es' : (cs.toList.drop i).take 1 = [.string s] := es
    rw [List.drop_eq_getElem_cons hlt, List.take_succ_cons, List.take_zero] at es'
    rw [List.getElem?_eq_getElem hlt]
    exact congrArg some (List.cons.inj es').1
  refine ⟨(List.range n).map (fun i => if hi : i < n then Classical.choose (hall i hi) else []), by simp, ?_, ?_⟩
  · congr 1
    apply Array.ext'
    apply List.ext_getElem?
    intro i
    by_cases hin : i < n
    · rw [(Classical.choose_spec (hall i hin)).1]
      simp [hin]
    · have : (Value.agg cs).cells.toList.length = cs.toList.length := rfl
      rw [List.getElem?_eq_none (by omega), List.getElem?_eq_none (by simpa using hin)]
  · rw [hx.1]
    congr 1
    apply List.ext_getElem?
    intro i
    by_cases hin : i < n
    · rw [List.getElem?_map, (Classical.choose_spec (hall i hin)).2]
      simp [hin]
    · rw [List.getElem?_eq_none (by rw [List.length_map, hyl, ← hfse, hs]; omega), List.getElem?_eq_none (by simpa using hin)]
set_option maxRecDepth 100000 in
theorem str_sized {H : Type} {ts : List TypeId} {ds : List (DataW H)} (h : (DataW.weightsEach Tryz.prog ts ds).all (· ≤ reachBytes) = true) {j : Nat} {T : TypeId} {fs : Array Field} (n : Nat) (hu : Tryz.prog.underlying T = some (.struct fs)) (hT : fs.toList.map (·.type) = List.replicate n 9) (ht : ts[j]? = some T) {l : List (List UInt8)} (hl : l.length = n) (hd : ds[j]? = some (.agg (l.map fun s => .lit (.string s)))) :
    ∀ s ∈ l, s.length ≤ 140737488355328 := by
  intro s hs
  have hb := reachBytes_lt
  have key : ∀ (k : Nat) (m : List (List UInt8)), m.length = k → ∀ s ∈ m, s.length ∈ DataW.weightsEach Tryz.prog (List.replicate k 9) (m.map fun s => (.lit (.string s) : DataW H)) := by
    intro k
    induction k with
    | zero => intro m hm s hs; rw [List.eq_nil_of_length_eq_zero hm] at hs; cases hs
    | succ k ih =>
      intro m hm s hs
      cases m with
      | nil => cases hs
      | cons a r =>
        rw [List.replicate_succ, List.map_cons]
        unfold DataW.weightsEach
        rcases List.mem_cons.1 hs with rfl | hs
        · exact List.mem_append_left _ (by unfold DataW.weights; simp)
        · exact List.mem_append_right _ (ih r (by simpa using hm) s hs)
  have h1 : s.length ∈ DataW.weights Tryz.prog T (.agg (l.map fun s => .lit (.string s)) : DataW H) := by
    unfold DataW.weights
    rw [hu]
    simp only
    rw [hT]
    exact key n l hl s hs
  have := List.all_eq_true.1 h _ (DataW.weights_mem_each ht hd _ h1)
  have : s.length ≤ reachBytes := by simpa using this
  omega
def OfMu {H : Type} (d : DataW H) (m : List UInt8 × List UInt8 × List UInt8 × List UInt8 × List UInt8) : Prop := d = .agg ([m.1, m.2.1, m.2.2.1, m.2.2.2.1, m.2.2.2.2].map fun s => .lit (.string s))
set_option maxRecDepth 100000 in
theorem open_truchmanref45Multi {H : Type} {enc : TypeId × Value → H} {W : World} {base : Nat} {v : Value} {d : DataW H} {p : List MemPlace}
    (hv : Value.okWide Tryz.prog W .any base 77 v) (h : DataW.Trod enc Tryz.prog W 0 (fun _ => true) true 77 v d p) :
    ∃ m : List UInt8 × List UInt8 × List UInt8 × List UInt8 × List UInt8, (v = .agg #[Sv m.1, Sv m.2.1, Sv m.2.2.1, Sv m.2.2.2.1, Sv m.2.2.2.2]) ∧ OfMu d m := by
  obtain ⟨l, hl, hv', hd⟩ := open_strs 5 Tryz.underlying77 (by kernel_rfl) (by kernel_rfl) (by kernel_rfl) hv h
  match l, hl with
  | [a, b, c, e, f], _ => exact ⟨(a, b, c, e, f), hv', hd⟩
def OfHd {H : Type} (d : DataW H) (m : Mb) : Prop := d = .agg ([m.1, m.2].map fun s => .lit (.string s))
set_option maxRecDepth 100000 in
theorem open_truchmanref46Header {H : Type} {enc : TypeId × Value → H} {W : World} {base : Nat} {v : Value} {d : DataW H} {p : List MemPlace}
    (hv : Value.okWide Tryz.prog W .any base 24 v) (h : DataW.Trod enc Tryz.prog W 0 (fun _ => true) true 24 v d p) :
    ∃ m : Mb, (v = .agg #[Sv m.1, Sv m.2]) ∧ OfHd d m := by
  obtain ⟨l, hl, hv', hd⟩ := open_strs 2 Tryz.underlying24 (by kernel_rfl) (by kernel_rfl) (by kernel_rfl) hv h
  match l, hl with
  | [a, b], _ => exact ⟨(a, b), hv', hd⟩
end Go.Proofs.YtgfdmdikiickpaaGreatDoor

/-! CarryQ -/
namespace Go.Proofs.YtgfdmdikiickpaaGreatDoor
open Go.RowKit

theorem flatM_one (L : List Mb) : ∀ u ∈ flatM L, u.oneCell' = true := by
  intro u hu
  unfold flatM at hu
  obtain ⟨l, hl, hu⟩ := List.mem_flatten.1 hu
  obtain ⟨m, _, rfl⟩ := List.mem_map.1 hl
  exact mcs_one m u hu
theorem flatM_apps (a b : List Mb) : flatM (a ++ b) = flatM a ++ flatM b := by simp [flatM]
theorem wpList_appMs {w : World} {ops : Array Oper} {rest : List Oper} {o : Oper} {a : Act} {Q : Exit → Act → World → Prop} (hgd : o.guard = none) (s x : Operand) (Ts T : TypeId)
    (hT : Tryz.prog.underlying Ts = some (.slice T)) (hI : (Tryz.prog.info? T).map (fun i => (i.zero, i.size, i.bytes)) = some (some zM, 2, 32))
    (ho : o.op = .call { callee := .builtin .append, args := #[s, x], argTypes := #[Ts, Ts] })
    (base : Nat) (v : Value) (L : List Mb) (hs : a.eval s = v) (hown : OwnM w base T v L)
    (g c : Nat) (H : List Mb) (hx : a.eval x = .slice (some ⟨g, 0, none⟩) H.length c) (hg : ∀ (j : Nat) u, (flatM H)[j]? = some u → w.cell? ⟨g, j, none⟩ = some u) (hl : L.length ≤ 100000) (hl2 : H.length ≤ 100000) (hbase : base ≤ w.heap.size)
    (h : ∀ v' w', OwnM w' base T v' (L ++ H) → w.grownBy w' v.ownBlock → wpList Tryz.prog ops Q rest (a.put o.dst v') w') : wpList Tryz.prog ops Q (o :: rest) a w := by
  refine wpList_plain hgd fun K hK => ?_
  obtain ⟨i0, hi, hz0, hz1, hz2⟩ := info_parts hI
  refine wp_append_own (w := w) s x _ ho base T i0 _ 2 32 hT hi hz0 hz1 hz2 rfl (by omega) v L.length (flatM L) hs hown ⟨g, 0, none⟩ H.length c (flatM H) hx (flatM_len H)
    (fun j u hu => by rw [add_zero_off]; exact hg j u hu) (flatM_one H) (by unfold maxLen; omega) (by omega) hbase ?_
  intro v' w' h1 h2 _
  refine hK _ _ (h v' w' ?_ h2)
  unfold OwnM
  rw [flatM_apps, List.length_append]
  exact h1
theorem OwnM.flat_at {w : World} {B g n c : Nat} {T : TypeId} {H : List Mb} (h : OwnM w B T (.slice (some ⟨g, 0, none⟩) n c) H) : ∀ (j : Nat) u, (flatM H)[j]? = some u → w.cell? ⟨g, j, none⟩ = some u := by
  intro j u hu
  have hlt : j < H.length * 2 := by
    rcases Nat.lt_or_ge j (flatM H).length with q | q
    · rw [flatM_len] at q; exact q
    · rw [List.getElem?_eq_none q] at hu; cases hu
  have hn : n = H.length := by
    rcases h.form with ⟨_, e⟩ | ⟨_, _, e, _⟩
    · cases e
    · injection e
  subst hn
  rw [World.ownsRow.cellAt h j (by omega)]
  exact hu
theorem grown_setCells {a : World} {g : Nat} : ∀ (vs : List Value) (o : Nat) {w : World}, a.grownBy w (some g) → a.grownBy (w.setCells g o vs) (some g)
  | [], _, _, h => h
  | v :: r, o, w, h => by
    rw [World.setCells]
    exact grown_setCells r (o + 1) (only_setCell h (.inl rfl) v)
theorem OwnM.setCells {w : World} {B : Nat} {T : TypeId} {v : Value} {L : List Mb} (h : OwnM w B T v L) {g : Nat} (hg : g < B) (o : Nat) (vs : List Value) : OwnM (w.setCells g o vs) B T v L :=
  World.ownsRow.kept h (grown_setCells vs o ⟨rfl, rfl, rfl, Nat.le_refl _, fun _ _ _ => rfl⟩) (by
    cases hq : v.ownBlock with
    | none => exact .inl rfl
    | some k =>
      refine .inr (fun e => ?_)
      have := (World.ownsRow.lt h k hq).1
      injection e with e
      omega)
theorem load_rh46 (w : World) (p : Addr) (m : Mb) (h0 : w.cell? p = some (Sv m.1)) (h1 : w.cell? ⟨p.block, p.off + 1, none⟩ = some (Sv m.2)) : (Instr.loadAt 24 (.pointer (some p))).run Tryz.prog w = .ok (.agg #[Sv m.1, Sv m.2]) w := load_rh w p m h0 h1
theorem at_dst {ops : Array Oper} {rest : List Oper} {o : Oper} {a : Act} {w : World} {Q : Exit → Act → World → Prop} (n : Nat) (_h : o.dst = some n) (hn : wpList Tryz.prog ops Q (o :: rest) a w) : wpList Tryz.prog ops Q (o :: rest) a w := hn
theorem size_goodc {M : List Mb} (h : GoodM M) : sizeM M ≤ 32 * (2 * 300) := by
  have hml := h.len
  refine Nat.le_trans (?_ : sizeM M ≤ M.length * (2 * 300)) (Nat.mul_le_mul_right _ hml)
  have key : ∀ m ∈ M, m.1.length ≤ 300 ∧ m.2.length ≤ 300 := fun m hm => good_len (h.all m hm).1 (h.all m hm).2
  clear hml h
  induction M with
  | nil => simp [sizeM]
  | cons m X ih =>
    have i1 := ih (fun x hx => key x (List.mem_cons_of_mem _ hx))
    have i2 := key m (by simp)
    have e2 : sizeM (m :: X) = m.1.length + m.2.length + sizeM X := by simp [sizeM]
    rw [e2, List.length_cons]
    omega
theorem wpList_putPW {ops : Array Oper} {rest : List Oper} {o : Oper} {a : Act} {w w0 : World} {Q : Exit → Act → World → Prop} {L : List Bk} (h : Frm w0 w L) (i : Nat) {g : Nat} {T : TypeId} {t x p q : List UInt8} {k : Int} {y z : Operand} (hgd : o.guard = none) (ho : o.op = .store 29 y z)
    (hi : L[i]? = some (g, T, (cc t x p k).toArray)) (hl : Okc t x p) (hq : q.length = 8) (hx : a.eval y = .pointer (some ⟨g, 24, none⟩)) (hy : a.eval z = Av q)
    (hn : ∀ w', Frm w0 w' (L.set i (g, T, (cc t x q k).toArray)) → w' = w.setCells g 24 (b8s q) → wpList Tryz.prog ops Q rest (a.put o.dst undef) w') : wpList Tryz.prog ops Q (o :: rest) a w := by
  have hpre : (b8s t ++ b8s x).length = 24 := by simp [hl.1, hl.2.1]
  refine wpList_store_seg hgd _ y z ho g 24 8 T (b8s t ++ b8s x) [.int .i64 k] q p hx hy (h.get i hi).ccP hpre info_span hq hl.2.2 (fun w' hw _ => hn w' ?_ hw)
  have := h.setSeg i (pre := b8s t ++ b8s x) (mid := b8s p) (post := [.int .i64 k]) (by rw [← cc_parent]; exact hi) (b8s q) (by simp [hq, hl.2.2])
  rw [hpre, ← cc_parent, ← hw] at this
  exact this
theorem styles (n : Int) (_h0 : 0 ≤ n) : n % 3 = 0 ∨ n % 3 = 1 ∨ n % 3 = 2 := by omega
theorem six_of {b : UInt8} : six b = (bi b == 116 || (bi b == 84 || (bi b == 120 || (bi b == 88 || (bi b == 98 || bi b == 66))))) :=
  u8_all (p := fun b => six b = (bi b == 116 || (bi b == 84 || (bi b == 120 || (bi b == 88 || (bi b == 98 || bi b == 66)))))) (by decide +kernel) b
set_option maxRecDepth 100000 in
set_option maxHeartbeats 32000000 in
theorem carryBack_any (t x p : List UInt8) (k : Int) (s : List UInt8) (sty : Int) (more : Mb) (w : World) (hok : Okc t x p) (hs0 : 0 ≤ sty) (hs1 : sty ≤ 255) (hm1 : more.1.length ≤ 140737488355328) (hsl : s.length ≤ 140737488351232) :
    Calls Tryz.prog 5 #[Cv t x p k, Sv s, .int .u8 sty, .agg #[Sv more.1, Sv more.2]] w fun e w' => e = .returned (.bool true) ∧ Below w.heap.size w w' := by
  have HOK := hid hok
  have hF0 : Frm w _ [(w.heap.size, 31, (cc t x p k).toArray), (w.heap.size + 1, 24, #[Sv more.1, Sv more.2])] := ((Frm.start w).new 31 (cc t x p k).toArray rfl).new 24 #[Sv more.1, Sv more.2] (n := w.heap.size + 1) (by simp)
  obtain ⟨W1, hW⟩ : ∃ W1, (w.alloc (.cells (cc t x p k).toArray 31)).alloc (.cells #[Sv more.1, Sv more.2] 24) = W1 := ⟨_, rfl⟩
  rw [hW] at hF0
  have HF := hid hF0
  have HW := hid hW
  clear hF0 hW
  have hmay := fun u => rmayc_any t x p k u hok
  have hof := fun u => rof_any t x p k u hok.1 hok.2.1 hok.2.2
  have hmb := fun u => rmay_any 0 (keepF k) t x u hok.1 hok.2.1
  obtain ⟨C, hC⟩ : ∃ C, mayC t x p k = C := ⟨_, rfl⟩
  obtain ⟨Bn, hB⟩ : ∃ B, mayB t x = B := ⟨_, rfl⟩
  simp only [hC] at hmay
  simp only [hB] at hmb
  have HC := hid hC
  have HB := hid hB
  clear hC hB hok
  go_enter Tryz.func5, Tryz.ntmps5
  go_upto_region 1 with fail
  rw [HW.out]
  clear HW
  have kk : W1.cell? ⟨w.heap.size, 32, none⟩ = some (.int .i64 k) := HF.out.cellK 0 rfl HOK.out
  go_cut [39] (fun c wx => ∃ b, c = .bool b ∧ Hid (b = false → (k = 1 ∨ k = 2) ∧ mayC t x p k = true ∧ mayB t x = true ∧ s.length ≤ 1000) ∧ Frm w wx [(w.heap.size, 31, (cc t x p k).toArray), (w.heap.size + 1, 24, #[Sv more.1, Sv more.2])])
  case first =>
    by_cases hsz : 1000 < s.length
    · have q0 : (1000 : Int) < (s.length : Int) := by omega
      go_wp2_with fail
      go_meet
      exact ⟨true, rfl, hid (fun h => by cases h), HF.out⟩
    have q0 : ¬ (1000 : Int) < (s.length : Int) := by omega
    have hs9 : s.length ≤ 1000 := by omega
    clear hsz
    go_wp2_with (refine at_dst 20 (by rfl) ?_; refine wpList_loadW (by rfl) rfl (HF.out.loadCv 0 rfl HOK.out) rfl ?_)
    (with_reducible refine (hmay _).mono ?_); rintro e w2 ⟨rfl, hb2⟩; have HF2 := hid (HF.out.call hb2); clear hb2
    cases C with
    | false =>
      go_wp2_with fail
      go_meet
      exact ⟨true, rfl, hid (fun h => by cases h), HF2.out⟩
    | true =>
    go_wp2_with (refine at_dst 25 (by rfl) ?_; refine wpList_loadW (by rfl) rfl (HF2.out.loadCv 0 rfl HOK.out) rfl ?_)
    (with_reducible refine (hof _).mono ?_); rintro e w3 ⟨rfl, hb3⟩; have HF3 := hid (HF2.out.call hb3); clear hb3
    go_wp2_with fail
    (with_reducible refine (hmb _).mono ?_); rintro e w4 ⟨rfl, hb4⟩; have HF4 := hid (HF3.out.call hb4); have kk4 := HF4.out.cellK 0 rfl HOK.out; clear hb4 kk
    cases Bn with
    | false =>
      go_wp2_with fail
      go_meet
      exact ⟨true, rfl, hid (fun h => by cases h), HF4.out⟩
    | true =>
    have HS9 := hid hs9
    by_cases hk : k = 1
    · have HK := hid hk
      have q1 : (k != 1) = false := by rw [hk]; rfl
      clear hk
      go_wp2_with fail
      go_meet
      exact ⟨false, rfl, hid (fun _ => ⟨.inl HK.out, HC.out, HB.out, HS9.out⟩), HF4.out⟩
    have q1 : (k != 1) = true := by rw [bne_iff_ne]; exact hk
    clear hk
    by_cases hk : k = 2
    · have HK := hid hk
      have q2 : (k != 2) = false := by rw [hk]; rfl
      clear hk
      go_wp2_with fail
      go_meet
      exact ⟨false, rfl, hid (fun _ => ⟨.inr HK.out, HC.out, HB.out, HS9.out⟩), HF4.out⟩
    have q2 : (k != 2) = true := by rw [bne_iff_ne]; exact hk
    clear hk
    go_wp2_with fail
    go_meet
    exact ⟨true, rfl, hid (fun h => by cases h), HF4.out⟩
  case rest =>
  obtain ⟨b, rfl, hb, hf4⟩ := hcut
  have HF4 := hid hf4
  cases b with
  | true =>
    go_wp2_with (go_at_call 6; refine (hworks46_any _).mono ?_; rintro e wz ⟨rfl, hbz⟩; have HFz := hid (HF4.out.call hbz); clear hbz)
    go_ret
    exact ⟨rfl, HFz.out.bel⟩
  | false =>
  have HK := hid (hb.out rfl)
  have hs9 := HK.out.2.2.2
  clear hb hf4 hmay hof hmb kk
  go_upto_region 3 with fail
  have c0 : wc.cell? ⟨w.heap.size + 1, 0, none⟩ = some (Sv more.1) := HF4.out.cell 1 rfl 0 rfl
  go_cut [80] (fun c wx => ∃ b, c = .bool b ∧ Hid (b = false → noHead more.1 = true) ∧ wx = wc)
  case first =>
    cases hnh : noHead more.1 with
    | true =>
      have HNH := hid hnh
      clear hnh
      go_wp2_with fail
      all_goals go_meet
      all_goals exact ⟨_, rfl, hid (fun _ => HNH.out), rfl⟩
    | false =>
      obtain ⟨b, r, hbr⟩ : ∃ b r, more.1 = b :: r := by
        cases h : more.1 with
        | nil => rw [h] at hnh; cases hnh
        | cons b r => exact ⟨b, r, rfl⟩
      have hx6 : six b = true := by rw [hbr] at hnh; simpa [noHead] using hnh
      rw [six_of] at hx6
      have hby : byteAt more.1 0 = bi b := by rw [hbr]; rfl
      have hpos : 1 ≤ more.1.length := by rw [hbr]; simp
      rw [← hby] at hx6
      have HX6 := hid hx6
      clear hx6 hby hbr hnh
      go_wp2_with fail
      all_goals go_meet
      all_goals first
        | exact ⟨true, rfl, hid (fun h => by cases h), rfl⟩
        | (refine ⟨_, rfl, hid (fun h => ?_), rfl⟩
           exfalso
           have hx := HX6.out
           simp only [Bool.or_eq_true, Bool.or_eq_false_iff, beq_iff_eq, ne_eq, beq_eq_false_iff_ne] at *
           omega)
  case rest =>
  obtain ⟨b, rfl, hb, rfl⟩ := hcut
  cases b with
  | true =>
    go_wp2_with (go_at_call 6; refine (hworks46_any _).mono ?_; rintro e wz ⟨rfl, hbz⟩; have HFz := hid (HF4.out.call hbz); clear hbz)
    go_ret
    exact ⟨rfl, HFz.out.bel⟩
  | false =>
  have HNH := hid (hb.out rfl)
  clear hb c0
  have hz := fun u => rread44_any s u (by omega)
  obtain ⟨M0, d, hMd⟩ : ∃ M0 d, readS s = (M0, d) := ⟨_, _, rfl⟩
  have HGO := hid (show d = 0 → GoodM M0 from fun h => by have := @readS_good s (by rw [hMd]; exact h); rwa [hMd] at this)
  simp only [hMd] at hz
  obtain ⟨M, hM⟩ : ∃ M, (if d = 0 then M0 else []) = M := ⟨_, rfl⟩
  have HGM := hid (show GoodM M by rw [← hM]; split; exact HGO.out ‹_›; exact GoodM.nil)
  have HM := hid hM
  clear hMd hM
  go_upto_region 5 with fail
  go_wp2_with fail
  refine (hz _).mono ?_; rintro e w5 ⟨v5, rfl, ho5, hb5⟩
  have HF5 := hid (HF4.out.call hb5)
  have HO5 := hid ho5
  clear ho5 hb5 hz
  go_upto_if 88 with fail
  go_cut [9] (fun v wx => OwnM wx wc.heap.size 81 v M ∧ Frm w wx [(w.heap.size, 31, (cc t x p k).toArray), (w.heap.size + 1, 24, #[Sv more.1, Sv more.2])])
  case first =>
    by_cases hd : d = 0
    · have HE := hid (show M0 = M by have := HM.out; rwa [if_pos hd] at this)
      have qd : (d != 0) = false := by rw [hd]; rfl
      subst hd
      go_wp2_with fail
      go_meet
      exact ⟨by rw [← HE.out]; exact HO5.out, HF5.out⟩
    · have HE := hid (show [] = M by have := HM.out; rwa [if_neg hd] at this)
      have qd : (d != 0) = true := by rw [bne_iff_ne]; exact hd
      have qd2 : (d == 0) = false := by rw [beq_eq_false_iff_ne]; exact hd
      go_wp2_with fail
      go_meet
      exact ⟨by rw [← HE.out]; exact OwnM.nil _ _ _, HF5.out⟩
  case rest =>
  obtain ⟨ho6, hf6⟩ := hcut
  have HO6 := hid ho6
  have HF6 := hid hf6
  clear ho6 hf6
  obtain ⟨A6, c6, hv6⟩ := HO6.out.len
  subst hv6
  go_upto_region 8 with fail
  go_cut [11] (fun v wx => v = .int .i64 (sty % 3 + 1) ∧ wx = wc)
  case first =>
    have q1 : sty % 3 = Int.tmod sty 3 := by rw [Int.tmod_eq_emod_of_nonneg hs0]
    have q2 : 0 ≤ Int.tmod sty 3 ∧ Int.tmod sty 3 < 3 := by rw [← q1]; omega
    have HQ1 := hid q1
    clear q1
    go_wp2_with fail
    go_meet
    exact ⟨by rw [HQ1.out], rfl⟩
  case rest =>
  obtain ⟨rfl, rfl⟩ := hcut
  obtain ⟨Ks, hKs⟩ : ∃ K, sty % 3 + 1 = K := ⟨_, rfl⟩
  have HKS := hid (show Ks = 1 ∨ Ks = 2 ∨ Ks = 3 by omega)
  rw [hKs]
  clear hKs
  have hMl : M.length ≤ 100 := Nat.le_trans HGM.out.len (by omega)
  have hMs := size_goodc HGM.out
  have hTl : (textS M).length ≤ 1000000 := by have := textS_len M; omega
  have hRv := inj_vals (style := Ks) HOK.out.1 HOK.out.2.1 (k := k) HOK.out.2.2 hTl
  have hRl := injR_len t x p k M Ks
  have hE1 : Ks = 1 → exR (injR t x p k M Ks) = ((t, x, zb 8, k, 0), M) := fun h => by rw [h]; exact back_w3c HOK.out.1 HOK.out.2.1 HK.out.2.2.1 HK.out.1 HGM.out
  have hE2 : Ks = 2 ∨ Ks = 3 → exR (injR t x p k M Ks) = ((t, x, p, k, 0), []) := fun h => by
    rcases h with h | h
    · rw [h]; exact back_single HOK.out.1 HOK.out.2.1 HOK.out.2.2 HK.out.2.1 HK.out.2.2.1 HK.out.1
    · rw [h]; exact back_multi HOK.out.1 HOK.out.2.1 HOK.out.2.2 HK.out.2.1
  have HNE := hid (fun (h : injR t x p k M Ks = []) => inj_ne HOK.out.1 HK.out.2.1 HK.out.2.2.1 HKS.out h)
  have hinj := fun A1 c1 u (hu : Mbs u u.heap.size A1 M) => cinject_any t x p k A1 c1 M Ks u HOK.out hu (by omega) (by omega)
  obtain ⟨R, hR⟩ : ∃ R, injR t x p k M Ks = R := ⟨_, rfl⟩
  simp only [hR] at hinj hRv hRl hE1 hE2
  rw [hR] at HNE
  have hSR := short_of (L := R) (by omega) (fun m hm => (hRv m hm).2)
  have HSM := hid (short_more HNH.out hSR (by omega))
  have HNM := hid (show ∀ m ∈ more :: R, m.1.length ≤ 140737488355328 from fun m hm => by
    rcases List.mem_cons.1 hm with h | h
    · rw [h]; exact hm1
    · exact Nat.le_trans (hRv m h).1 (by omega))
  have HE1 := hid (fun h => (exR_more (H := R) HNH.out).trans (hE1 h))
  have HE2 := hid (fun h => (exR_more (H := R) HNH.out).trans (hE2 h))
  have HINJ := hid hinj
  have HRL := hid hRl
  clear hinj hRv hRl hE1 hE2 hSR hR hMs hTl
  go_upto_region 9 with fail
  refine wp_region_held_drew (S := fun u => (Instr.loadAt 31 (.pointer (some ⟨w.heap.size, 0, none⟩))).run Tryz.prog u = .ok (Cv t x p k) u) (by kernel_rfl) (HF6.out.drew.loadCv 0 rfl HOK.out) (fun hS0 => ?_)
  have HF0 := hid (HF6.out.drew)
  have HO0 := hid (HO6.out.ext (ext_drew _))
  generalize wc.drew = u0 at HF0 hS0 HO0 ⊢
  refine held_step (i := 0) (some 93) (v := _) (by rfl) (by kernel_rfl) (by kernel_rfl) (by kernel_rfl) (fun _ _ _ h => h) (fun o ho => by (simp only [List.getElem?_toArray, List.getElem?_cons_zero, Option.some.injEq] at ho; subst ho; exact Or.inl ⟨by rfl, fun u hSu => run_load_of rfl hSu⟩)) (by assumption) ?_
  try simp only [Act.put, List.setIfInBounds_toArray, List.set_cons_zero, List.set_cons_succ]
  refine held_step (i := 1) (some 94) (v := ?hv1) (by rfl) (by kernel_rfl) (by kernel_rfl) (by kernel_rfl) (fun _ _ _ h => h) ?hy1 (by assumption) ?hr1
  case hy1 => (intro o ho; simp only [List.getElem?_toArray, List.getElem?_cons_zero, List.getElem?_cons_succ, Option.some.injEq] at ho; subst ho; refine Or.inl ⟨by rfl, fun u hSu => ?_⟩; clear hSu; go_simp; with_reducible rfl)
  try simp only [Act.put, List.setIfInBounds_toArray, List.set_cons_zero, List.set_cons_succ]
  refine held_step (i := 3) (some 96) (v := ?hv2) (by rfl) (by kernel_rfl) (by kernel_rfl) (by kernel_rfl) (fun _ _ _ h => h) ?hy2 (by assumption) ?hr2
  case hy2 => (intro o ho; simp only [List.getElem?_toArray, List.getElem?_cons_zero, List.getElem?_cons_succ, Option.some.injEq] at ho; subst ho; refine Or.inl ⟨by rfl, fun u hSu => ?_⟩; clear hSu; go_simp; with_reducible rfl)
  try simp only [Act.put, List.setIfInBounds_toArray, List.set_cons_zero, List.set_cons_succ]
  refine wpAnyH_ready (rs := [2]) (by kernel_rfl) (by simp) ?_
  refine AllReadyH.cons rfl (fun K hK => ?_) AllReadyH.nil
  rw [if_pos (by rfl)]
  go_simp
  refine (own44_any A6 c6 M u0 (HO0.out.mbs_) (by omega)).mono ?_; rintro e u1 ⟨v1, rfl, ho, hb⟩
  have HO1 := hid ho
  have HF1 := hid (HF0.out.call hb)
  have HL1 := hid (HO0.out.ext hb)
  clear ho hb
  obtain ⟨A1, c1, hv⟩ := HO1.out.len
  subst hv
  refine hK.out _ _ (HF1.out.loadCv 0 rfl HOK.out) (fun hS1 => ?_)
  clear hK
  try simp only [Act.put, List.setIfInBounds_toArray, List.set_cons_zero, List.set_cons_succ]
  refine wpAnyH_ready (rs := [4]) (by kernel_rfl) (by simp) ?_
  refine AllReadyH.cons rfl (fun K hK => ?_) AllReadyH.nil
  rw [if_pos (by rfl)]
  go_simp
  refine (HINJ.out A1 c1 u1 (HO1.out.mbs_)).mono ?_; rintro e u2 ⟨v2, rfl, ho, hb⟩
  have HO2 := hid ho
  have HF2 := hid (HF1.out.call hb)
  have HL2 := hid (HL1.out.ext hb)
  clear ho hb
  obtain ⟨A2, c2, hv⟩ := HO2.out.len
  subst hv
  refine hK.out _ _ (HF2.out.loadCv 0 rfl HOK.out) (fun hS2 => ?_)
  clear hK
  try simp only [Act.put, List.setIfInBounds_toArray, List.set_cons_zero, List.set_cons_succ]
  refine held_step (i := 5) (some 12) (v := ?hv3) (by rfl) (by kernel_rfl) (by kernel_rfl) (by kernel_rfl) (fun _ _ _ h => h) ?hy3 (by assumption) ?hr3
  case hy3 => (intro o ho; simp only [List.getElem?_toArray, List.getElem?_cons_zero, List.getElem?_cons_succ, Option.some.injEq] at ho; subst ho; refine Or.inl ⟨by rfl, fun u hSu => ?_⟩; clear hSu; go_simp; with_reducible rfl)
  try simp only [Act.put, List.setIfInBounds_toArray, List.set_cons_zero, List.set_cons_succ]
  refine wpAnyH_done (by kernel_rfl) ?_ _
  have d0 : u2.cell? ⟨w.heap.size + 1, 0, none⟩ = some (Sv more.1) := HF2.out.cell 1 rfl 0 rfl
  have d1 : u2.cell? ⟨w.heap.size + 1, 1, none⟩ = some (Sv more.2) := HF2.out.cell 1 rfl 1 rfl
  obtain ⟨g2, hg2⟩ : ∃ g, A2 = some ⟨g, 0, none⟩ := by
    rcases HO2.out.form with ⟨e, _⟩ | ⟨g, cap, e, _, _, _⟩
    · exact absurd e HNE.out
    · injection e with e1 e2 e3
      exact ⟨g, e1⟩
  subst hg2
  go_upto_region 10 with fail
  go_wp2_with fail
  obtain ⟨u3, hu3⟩ : ∃ u3, u2.alloc (.cells #[Sv more.1, Sv more.2] 24) = u3 := ⟨_, rfl⟩
  have hb3 : Below u2.heap.size u2 u3 := by rw [← hu3]; exact ext_alloc _ _
  have hm3 : Mbs u3 u3.heap.size (some ⟨u2.heap.size, 0, none⟩) [more] := by rw [← hu3]; exact (OwnM.one u2 0 (Nat.zero_le _) 24 more).mbs_
  rw [hu3]
  have HF3 := hid (HF2.out.call hb3)
  have HO3 := hid (HO2.out.ext hb3)
  have HL3 := hid (HL2.out.ext hb3)
  clear hu3 d0 d1 hb3
  refine (ownh_any (some ⟨u2.heap.size, 0, none⟩) 1 [more] u3 hm3 (by simp)).mono ?_; rintro e u4 ⟨v4, rfl, ho, hb⟩
  have HA4 := hid ho
  have HB4 := hid hb
  have HO4 := hid (HO3.out.ext hb)
  clear ho hb hm3
  go_wp2_with (refine wpList_appMs rfl _ _ _ _ Tryz.underlying36 info_ch rfl u3.heap.size v4 [more] rfl HA4.out g2 c2 R rfl (HO4.out.flat_at) (by simp) (Nat.le_trans HRL.out (by omega)) HB4.out.size ?_; intro v5 u5 ho5 hg5; have HA5 := hid (show OwnM u5 u3.heap.size 61 v5 (more :: R) from ho5); have HG5 := hid hg5; clear ho5 hg5)
  have hb5 : Below u3.heap.size u3 u5 := by
    cases hq : v4.ownBlock with
    | none => exact HB4.out.trans ((below_of_only (hq ▸ HG5.out)).mono HB4.out.size)
    | some kq => exact below_only HB4.out (hq ▸ HG5.out) HB4.out.size (World.ownsRow.lt HA4.out kq hq).1
  have HF5 := hid (HF3.out.call hb5)
  have HL5 := hid (HL3.out.ext hb5)
  clear hb5
  obtain ⟨A5, c5, hv5⟩ := HA5.out.len
  subst hv5
  have hex := cextract_any A5 c5 (more :: R) u5 HA5.out.mbs_ HSM.out HNM.out
  have hlt5 := (HF5.out.get 0 rfl).lt
  have hlt4 := (HF4.out.get 0 rfl).lt
  unfold exOut at hex
  rcases HKS.out with h1 | h23
  · have hE := HE1.out h1
    subst h1
    rw [hE] at hex
    simp only at hex
    refine hex.mono ?_; rintro e u6 ⟨v6, rfl, ho6, hb6⟩
    have HF6 := hid ((HF5.out.call hb6).new0 31 (n := u6.heap.size) rfl)
    have HO6 := hid ho6
    have HL6 := hid (HL5.out.ext hb6)
    have HZ := hid (⟨HOK.out.1, HOK.out.2.1, zb_length 8⟩ : Okc t x (zb 8))
    clear ho6 hb6 hex hE
    go_upto_region 11 with (refine wpList_store_cv rfl 31 _ _ rfl u6.heap.size 31 k 0 t x (zb 8) (zb 16) (zb 8) (zb 8) rfl rfl (HF6.out.get 2 rfl) info_ctx HOK.out.1 HOK.out.2.1 HZ.out.2.2 (zb_length 16) (zb_length 8) (zb_length 8) ?_; intro u7 hw7 _; have HF7 := hid (show Frm w u7 _ by rw [hw7]; exact HF6.out.setRow 2 rfl _); have HO7 := hid (HO6.out.ext (stored_new hw7)); have HL7 := hid (HL6.out.ext (stored_new hw7)); clear hw7)
    go_upto_region 13 with (refine wpList_putPW HF7.out 0 (q := zb 8) rfl rfl rfl HOK.out (zb_length 8) rfl rfl ?_; intro u8 h8 hw8; have HF8 := hid h8; have HO8 := hid (show OwnM u8 _ _ v6 M by rw [hw8]; exact HO7.out.setCells hlt5 24 _); have HL8 := hid (show OwnM u8 _ _ (.slice A6 M.length c6) M by rw [hw8]; exact HL7.out.setCells hlt4 24 _); clear h8 hw8)
    obtain ⟨A8, c8, hv8⟩ := HO8.out.len
    subst hv8
    have qE := fun u => run_eq_cv u k k t x (zb 8) t x (zb 8) HZ.out.1 HZ.out.2.1 HZ.out.2.2 HZ.out.1 HZ.out.2.1 HZ.out.2.2
    simp only [cvq_self] at qE
    go_wp2_with (first
      | (refine at_dst 115 (by rfl) ?_; refine wpList_loadW (by rfl) rfl (HF8.out.loadCv 2 rfl HZ.out) rfl ?_)
      | (refine at_dst 116 (by rfl) ?_; refine wpList_loadW (by rfl) rfl (HF8.out.loadCv 0 rfl HZ.out) rfl ?_))
    refine (back44_any A8 c8 M u8 HO8.out.mbs_ (by omega)).mono ?_; rintro e u9 ⟨v9, rfl, ho9, hb9⟩
    have HF9 := hid (HF8.out.call hb9)
    have HO9 := hid ho9
    have HL9 := hid (HL8.out.ext hb9)
    clear ho9 hb9
    obtain ⟨A9, c9, hv9⟩ := HO9.out.len
    subst hv9
    have hsm := rsame_any A9 A6 c9 c6 M M u9 HO9.out.mbs_ HL9.out.mbs_ (by omega)
    rw [show decide (M = M) = true by simp] at hsm
    go_wp2_with fail
    refine hsm.mono ?_; rintro e ua ⟨rfl, hba⟩
    have HFa := hid (HF9.out.call hba)
    clear hba hsm
    go_wp2_with (go_at_call 6; refine (hworks46_any _).mono ?_; rintro e wz ⟨rfl, hbz⟩; have HFz := hid (HFa.out.call hbz); clear hbz)
    go_ret
    exact ⟨rfl, HFz.out.bel⟩
  · have hE := HE2.out h23
    have qs : (Ks == 1) = false := by rw [beq_eq_false_iff_ne]; omega
    have qs2 : (Ks != 1) = true := by rw [bne_iff_ne]; omega
    rw [hE] at hex
    simp only at hex
    refine hex.mono ?_; rintro e u6 ⟨v6, rfl, ho6, hb6⟩
    have HF6 := hid ((HF5.out.call hb6).new0 31 (n := u6.heap.size) rfl)
    have HO6 := hid ho6
    have HL6 := hid (HL5.out.ext hb6)
    have HZ := hid HOK.out
    clear ho6 hb6 hex hE h23
    go_upto_region 11 with (refine wpList_store_cv rfl 31 _ _ rfl u6.heap.size 31 k 0 t x p (zb 16) (zb 8) (zb 8) rfl rfl (HF6.out.get 2 rfl) info_ctx HOK.out.1 HOK.out.2.1 HZ.out.2.2 (zb_length 16) (zb_length 8) (zb_length 8) ?_; intro u7 hw7 _; have HF7 := hid (show Frm w u7 _ by rw [hw7]; exact HF6.out.setRow 2 rfl _); have HO7 := hid (HO6.out.ext (stored_new hw7)); have HL7 := hid (HL6.out.ext (stored_new hw7)); clear hw7)
    obtain ⟨A8, c8, hv8⟩ := HO7.out.len
    subst hv8
    have qE := fun u => run_eq_cv u k k t x p t x p HZ.out.1 HZ.out.2.1 HZ.out.2.2 HZ.out.1 HZ.out.2.1 HZ.out.2.2
    simp only [cvq_self] at qE
    go_wp2_with (first
      | (refine at_dst 131 (by rfl) ?_; refine wpList_loadW (by rfl) rfl (HF7.out.loadCv 2 rfl HZ.out) rfl ?_)
      | (refine at_dst 132 (by rfl) ?_; refine wpList_loadW (by rfl) rfl (HF7.out.loadCv 0 rfl HZ.out) rfl ?_)
      | (go_at_call 6; refine (hworks46_any _).mono ?_; rintro e wz ⟨rfl, hbz⟩; have HFz := hid (HF7.out.call hbz); clear hbz))
    go_ret
    exact ⟨rfl, HFz.out.bel⟩
end Go.Proofs.YtgfdmdikiickpaaGreatDoor
