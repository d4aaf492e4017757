/-
  What the row's list says of the variable 'none'.
-/
import Derived.Test.YtdjbgojdkaipfaaDoorRows
import Derived.Test.YtdjbgojdkaipfaaDoorPtagLaw
import Derived.ProofKit
import Derived.Deep.DeepHandedRow
import Derived.Lib.LaidTab
namespace Go.Proofs.YtdjbgojdkaipfaaDoor
open Go.ChangeShapes Go.WideShapes Go.ChangeAt Go.RowKit

theorem gNone : Tryd.prog.globalNamed "truchman/ptag.none" = some 0 := by kernel_rfl
theorem gNoneType : (Tryd.prog.globals[0]?).map (·.type) = some 30 := by kernel_rfl
theorem none_of {W : World} (h : laidMetH Tryd.prog [("truchman/ptag.none", Rows.laid_truchman_ptag_none)] W) : NoneIs W := by
  have h' : laidMet Tryd.prog [("truchman/ptag.none", Rows.laid_truchman_ptag_none)] W := h
  obtain ⟨ps, ⟨g', t', cs, fuel, p, q, hg', ht', hvar, hd, _, _⟩, _⟩ := h'
  obtain rfl := Option.some.inj (gNone.symm.trans hg')
  obtain rfl := Option.some.inj (gNoneType.symm.trans ht')
  obtain ⟨y0, y1, n, hx, h0, h1, h2⟩ := trod_struct2 Tryd.underlying30 hd
  simp [Rows.laid_truchman_ptag_none] at hx
  obtain ⟨⟨hx0, hx1⟩, _⟩ := hx
  have hl : cs.toList.length = 2 := h0.trans (by kernel_rfl)
  have hc : Tryd.prog.cellsOf 3 = 1 := by kernel_rfl
  obtain ⟨a, b, hab⟩ : ∃ a b, cs.toList = [a, b] := by
    match hcs : cs.toList, hl with
    | [a, b], _ => exact ⟨a, b, rfl⟩
  rw [hab] at h1 h2
  simp only [hc, List.drop_zero, List.take_succ_cons, List.take_zero, List.drop_succ_cons] at h1 h2
  obtain ⟨z0, e0, f0, _⟩ := DataW.trod_int Tryd.underlying3 h1
  obtain ⟨z1, e1, f1, _⟩ := DataW.trod_int Tryd.underlying3 h2
  simp only [List.cons.injEq, and_true] at e0 e1
  rw [f0] at hx0
  rw [f1] at hx1
  simp at hx0 hx1
  have k0 := World.var?_cell gNone hvar 0
  have k1 := World.var?_cell gNone hvar 1
  have q0 : cs[0]? = some a := by rw [← Array.getElem?_toList, hab]; rfl
  have q1 : cs[1]? = some b := by rw [← Array.getElem?_toList, hab]; rfl
  rw [q0, e0, ← hx0] at k0
  rw [q1, e1, ← hx1] at k1
  exact ⟨k0, k1⟩
end Go.Proofs.YtdjbgojdkaipfaaDoor
