/-
  Headers and contexts, as they come in by value.
-/
import Derived.Test.YtgfdmdikiickpaaDoorOpenName
import Derived.Test.YtgfdmdikiickpaaDoorCtx
namespace Go.Proofs.YtgfdmdikiickpaaDoor
open Go.ChangeShapes Go.WideShapes Go.RowKit Go.ChangeAt

theorem split4 (cs : List Value) (a b c d : Nat) (h : cs.length = a + b + c + d) : cs = (cs.drop 0).take a ++ (cs.drop a).take b ++ (cs.drop (a + b)).take c ++ (cs.drop (a + b + c)).take d := by
  rw [List.drop_zero, ← List.take_add, ← List.take_add, ← List.take_add, List.take_of_length_le (by omega)]
theorem field_trod {H : Type} {enc : TypeId × Value → H} {w : World} {base : Nat} {spare : Nat → Bool} {held : Bool} {n i T ty off sz : Nat} {cs : List Value} {ys : List (DataW H × List MemPlace)}
    (hf : ∀ (j : Nat) (f : Field), (Tryd.prog.fieldsOf T)[j]? = some f → ys[j]? = DataW.trod enc Tryd.prog w base spare held n f.type ((cs.drop f.offset).take (Tryd.prog.cellsOf f.type)))
    (hl : i < ys.length) (hi : ((Tryd.prog.fieldsOf T).toList.map (fun f => (f.name == "_", f.type, f.offset)))[i]? = some (false, ty, off)) (hc : Tryd.prog.cellsOf ty = sz) :
    ∃ y, DataW.trod enc Tryd.prog w base spare held n ty ((cs.drop off).take sz) = some y := by
  obtain ⟨f, e, t0, o0⟩ := field_at hi
  have h := hf i f e
  rw [t0, o0, hc, List.getElem?_eq_getElem hl] at h
  exact ⟨_, h.symm⟩
set_option maxRecDepth 100000 in
theorem open_apiContext {H : Type} {enc : TypeId × Value → H} {W : World} {base : Nat} {v : Value} {d : DataW H} {p : List MemPlace}
    (hv : Value.okWide Tryd.prog W .any base 29 v) (h : DataW.Trod enc Tryd.prog W 0 (fun _ => true) true 29 v d p) :
    ∃ r : List UInt8 × List UInt8 × List UInt8 × Int, (v = Cv r.1 r.2.1 r.2.2.1 r.2.2.2 ∧ r.1.length = 16 ∧ r.2.1.length = 8 ∧ r.2.2.1.length = 8 ∧ -9223372036854775808 ≤ r.2.2.2 ∧ r.2.2.2 ≤ 9223372036854775807) ∧ True := by
  obtain ⟨cs, rfl, _⟩ := WideShapes.okWide_struct und_ctx hv
  obtain ⟨fuel, hf⟩ := h
  obtain ⟨ys, n, _, _, hlen, hyl, hfs⟩ := DataW.trod_struct und_ctx hf
  have hsz : Tryd.prog.cellsOf 29 = 33 := by kernel_rfl
  have hs : (Tryd.prog.fieldsOf 29).size = 4 := by
    have := congrArg List.length fields_ctx
    simpa using this
  rw [hsz] at hlen
  have hc16 : Tryd.prog.cellsOf 25 = 16 := by kernel_rfl
  have hc8 : Tryd.prog.cellsOf 27 = 8 := by kernel_rfl
  have hc1 : Tryd.prog.cellsOf 5 = 1 := by kernel_rfl
  have hci : Tryd.prog.cellsOf 3 = 1 := by kernel_rfl
  have hfs' : ∀ (j : Nat) (f : Field), (Tryd.prog.fieldsOf 29)[j]? = some f → ys[j]? = DataW.trod enc Tryd.prog W 0 (fun _ => true) true n f.type (((Value.agg cs).cells.toList.drop f.offset).take (Tryd.prog.cellsOf f.type)) := fun j f hj => (hfs j f hj).symm
  obtain ⟨y0, h0⟩ := field_trod (i := 0) (ty := 25) (off := 0) (sz := 16) hfs' (by omega) (by rw [fields_ctx]; rfl) hc16
  obtain ⟨y1, h1⟩ := field_trod (i := 1) (ty := 27) (off := 16) (sz := 8) hfs' (by omega) (by rw [fields_ctx]; rfl) hc8
  obtain ⟨y2, h2⟩ := field_trod (i := 2) (ty := 27) (off := 24) (sz := 8) hfs' (by omega) (by rw [fields_ctx]; rfl) hc8
  obtain ⟨y3, h3⟩ := field_trod (i := 3) (ty := 3) (off := 32) (sz := 1) hfs' (by omega) (by rw [fields_ctx]; rfl) hci
  have hsp := split4 (Value.agg cs).cells.toList 16 8 8 1 hlen
  obtain ⟨t, ht, e0⟩ := bytes_of_trodN Tryd.underlying25 Tryd.underlying5 hc1 hc16 h0
  obtain ⟨s, hs', e1⟩ := bytes_of_trodN Tryd.underlying27 Tryd.underlying5 hc1 hc8 h1
  obtain ⟨q, hq, e2⟩ := bytes_of_trodN Tryd.underlying27 Tryd.underlying5 hc1 hc8 h2
  obtain ⟨z3, e3, _, w3⟩ := DataW.trod_int Tryd.underlying3 h3
  rw [e0, e1, e2, e3] at hsp
  have hb : -9223372036854775808 ≤ z3 ∧ z3 ≤ 9223372036854775807 := by simpa [Lit.wf, IntKind.min, IntKind.max, IntKind.signed, IntKind.bits] using w3
  refine ⟨(t, s, q, z3), ⟨?_, ht, hs', hq, hb.1, hb.2⟩, trivial⟩
  unfold Cv
  congr 1
  exact Array.ext' (by rw [show cs.toList = _ from hsp]; simp [cc])
end Go.Proofs.YtgfdmdikiickpaaDoor
