/-
  How memory stands in a loop over a cursor and the document's cursor beside it.
-/
import Derived.Test.YtdjbgojdkaipfaaCurRef
namespace Go.Proofs.Ytdjbgojdkaipfaa
open Go.RowKit

structure Sd (w0 w : World) (b g : Nat) (c d : Cu) : Prop where
  cur : CurAt w b c
  doc : Blk w g 78 #[Sv d.s, .int .i64 d.pos, .int .i64 d.en, .int .i64 d.code]
  bel : Below w0.heap.size w0 w
  hb : w0.heap.size ≤ b
  hg : w0.heap.size ≤ g
  bg : b ≠ g
theorem blk_put4 {w : World} {g : Nat} {t : TypeId} {a1 a2 a3 a4 : Value} (h : Blk w g t #[a1, a2, a3, a4]) (v1 v2 v3 v4 : Value) :
    Blk ((((w.setCell ⟨g, 0, none⟩ v1).setCell ⟨g, 1, none⟩ v2).setCell ⟨g, 2, none⟩ v3).setCell ⟨g, 3, none⟩ v4) g t #[v1, v2, v3, v4] :=
  (((h.set_ 0 v1).set_ 1 v2).set_ 2 v3).set_ 3 v4
section
variable {w0 w w' : World} {b g : Nat} {c d c' d' : Cu}
theorem Sd.ext (h : Sd w0 w b g c d) (k : Below w.heap.size w w') : Sd w0 w' b g c d :=
  ⟨h.cur.ext k, Blk.below h.doc k h.doc.lt, h.bel.trans (k.mono h.bel.size), h.hb, h.hg, h.bg⟩
theorem Sd.move (h : Sd w0 w b g c d) (hc : CurAt w' b c') (k : w.grownBy w' (some b)) : Sd w0 w' b g c' d :=
  ⟨hc, Blk.grown h.doc k (by intro e; injection e with e; exact h.bg e.symm), below_only h.bel k h.bel.size h.hb, h.hb, h.hg, h.bg⟩
theorem Sd.put (h : Sd w0 w b g c d) (d' : Cu) :
    Sd w0 ((((w.setCell ⟨g, 0, none⟩ (Sv d'.s)).setCell ⟨g, 1, none⟩ (.int .i64 d'.pos)).setCell ⟨g, 2, none⟩ (.int .i64 d'.en)).setCell ⟨g, 3, none⟩ (.int .i64 d'.code)) b g c d' :=
  ⟨Blk.far (Blk.far (Blk.far (Blk.far h.cur (by exact h.bg) _) (by exact h.bg) _) (by exact h.bg) _) (by exact h.bg) _,
   blk_put4 h.doc _ _ _ _,
   (((h.bel.setCell (p := ⟨g, 0, none⟩) h.hg _).setCell (p := ⟨g, 1, none⟩) h.hg _).setCell (p := ⟨g, 2, none⟩) h.hg _).setCell (p := ⟨g, 3, none⟩) h.hg _, h.hb, h.hg, h.bg⟩
theorem Sd.drewN (h : Sd w0 w b g c d) (n : Nat) : Sd w0 (w.drewN n) b g c d := h.ext (ext_drewN w n)
end
end Go.Proofs.Ytdjbgojdkaipfaa
