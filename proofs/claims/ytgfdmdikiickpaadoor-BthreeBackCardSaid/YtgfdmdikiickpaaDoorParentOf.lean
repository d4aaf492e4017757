/-
  Walks of package parent and of its reference: a context's header, a header's context.
-/
import Derived.Test.YtgfdmdikiickpaaDoorHdr
import Derived.Test.YtgfdmdikiickpaaDoorIdent
import Derived.Test.YtgfdmdikiickpaaDoorBits
import Derived.Test.YtgfdmdikiickpaaDoorParentRead
namespace Go.Proofs.YtgfdmdikiickpaaDoor
open Go.RowKit

theorem Blk.hcT {w : World} {g : Nat} {T : TypeId} {v f : Int} {t s : List UInt8} (h : Blk w g T (hc v t s f).toArray) : Blk w g T ([Value.int .u8 v] ++ (b8s t ++ (b8s s ++ [Value.int .u8 f]))).toArray := by rw [← hc_trace]; exact h
theorem Blk.hcX {w : World} {g : Nat} {T : TypeId} {v f : Int} {t s : List UInt8} (h : Blk w g T (hc v t s f).toArray) : Blk w g T (([Value.int .u8 v] ++ b8s t) ++ (b8s s ++ [Value.int .u8 f])).toArray := by rw [← hc_span]; exact h
theorem Blk.ccT {w : World} {g : Nat} {T : TypeId} {k : Int} {t s p : List UInt8} (h : Blk w g T (cc t s p k).toArray) : Blk w g T ([] ++ (b8s t ++ (b8s s ++ b8s p ++ [Value.int .i64 k]))).toArray := by rw [← cc_trace]; exact h
theorem Blk.ccX {w : World} {g : Nat} {T : TypeId} {k : Int} {t s p : List UInt8} (h : Blk w g T (cc t s p k).toArray) : Blk w g T (b8s t ++ (b8s s ++ (b8s p ++ [Value.int .i64 k]))).toArray := by rw [← cc_span]; exact h
theorem Blk.ccP {w : World} {g : Nat} {T : TypeId} {k : Int} {t s p : List UInt8} (h : Blk w g T (cc t s p k).toArray) : Blk w g T ((b8s t ++ b8s s) ++ (b8s p ++ [Value.int .i64 k])).toArray := by rw [← cc_parent]; exact h
theorem below_cellAt {B : Nat} {a w : World} (h : Below B a w) {g : Nat} (hg : B ≤ g) (o : Nat) (v : Value) : Below B a (w.setCell ⟨g, o, none⟩ v) := by
  have hg' : B ≤ (⟨g, o, none⟩ : Addr).block := hg
  with_reducible exact Below.setCell h hg' v
theorem Blk.setF {w : World} {g : Nat} {T : TypeId} {v f : Int} {t s : List UInt8} (h : Blk w g T (hc v t s f).toArray) (ht : t.length = 16) (hs : s.length = 8) (k : Int) : Blk (w.setCell ⟨g, 25, none⟩ (.int .u8 k)) g T (hc v t s k).toArray := by
  have := h.set_ 25 (.int .u8 k)
  rwa [hc_flags ht hs] at this
theorem Blk.setK {w : World} {g : Nat} {T : TypeId} {k : Int} {t s p : List UInt8} (h : Blk w g T (cc t s p k).toArray) (ht : t.length = 16) (hs : s.length = 8) (hp : p.length = 8) (m : Int) : Blk (w.setCell ⟨g, 32, none⟩ (.int .i64 m)) g T (cc t s p m).toArray := by
  have := h.set_ 32 (.int .i64 m)
  rwa [cc_keep ht hs hp] at this
def keepF (k : Int) : Int := if k = 2 ∨ k = 3 then 1 else 0

end Go.Proofs.YtgfdmdikiickpaaDoor
