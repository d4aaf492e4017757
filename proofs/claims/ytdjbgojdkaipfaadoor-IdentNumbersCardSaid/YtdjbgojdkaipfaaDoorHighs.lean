/-
  What the row's list says of the table of shifts.
-/
import Derived.Test.YtdjbgojdkaipfaaDoorRows
import Derived.Test.YtdjbgojdkaipfaaDoorLay
import Derived.ProofKit
import Derived.Deep.DeepHandedRow
import Derived.Lib.LaidTab
namespace Go.Proofs.YtdjbgojdkaipfaaDoor
open Go.ChangeShapes Go.WideShapes Go.ChangeAt Go.RowKit

theorem gTab : Tryd.prog.globalNamed "truchman/word.highs" = some 1 := by kernel_rfl
theorem gTabType : (Tryd.prog.globals[1]?).map (·.type) = some 45 := by kernel_rfl
theorem cellsTab : Tryd.prog.cellsOf 45 = 8 := by kernel_rfl
theorem cellsU8 : Tryd.prog.cellsOf 5 = 1 := by kernel_rfl
theorem highs_of {W : World} (h : laidMetH Tryd.prog [("truchman/word.highs", Rows.laid_truchman_word_highs)] W) : Highs W := by
  have ht : Lib.TabIs Tryd.prog W "truchman/word.highs" .u8 [56, 48, 40, 32, 24, 16, 8, 0] :=
    Lib.tabIs_of_head (rest := []) gTab gTabType Tryd.underlying45 Tryd.underlying5 cellsU8 cellsTab h
  intro k hk
  have := ht.cell gTab k (by simpa using hk)
  rw [this]
  match k, hk with
  | 0, _ => rfl
  | 1, _ => rfl
  | 2, _ => rfl
  | 3, _ => rfl
  | 4, _ => rfl
  | 5, _ => rfl
  | 6, _ => rfl
  | 7, _ => rfl
end Go.Proofs.YtdjbgojdkaipfaaDoor
