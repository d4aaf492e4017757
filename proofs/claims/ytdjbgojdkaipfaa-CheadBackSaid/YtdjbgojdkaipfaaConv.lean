/-
  A text's bytes as a slice of the call's own: the conversion as a step of the walk, its value and its world as letters.
-/
import Derived.Test.YtdjbgojdkaipfaaPHexa
namespace Go.Proofs.Ytdjbgojdkaipfaa
open Go.RowKit

noncomputable def tv (w : World) (l : List UInt8) : Value := Classical.choose (run_to_bytes w l)
noncomputable def tb (w : World) (l : List UInt8) : World := Classical.choose (Classical.choose_spec (run_to_bytes w l))
theorem tb_spec (w : World) (l : List UInt8) : (convert 9 25 (Sv l)).run Try.prog w = .ok (tv w l) (tb w l) ∧ Bs (tb w l) (tb w l).heap.size (tv w l) l ∧ Below w.heap.size w (tb w l) :=
  Classical.choose_spec (Classical.choose_spec (run_to_bytes w l))
@[go_sem] theorem run_tb (w : World) (l : List UInt8) : (convert 9 25 (Sv l)).run Try.prog w = .ok (tv w l) (tb w l) := (tb_spec w l).1
theorem tb_bs (w : World) (l : List UInt8) : Bs (tb w l) (tb w l).heap.size (tv w l) l := (tb_spec w l).2.1
theorem tb_below (w : World) (l : List UInt8) : Below w.heap.size w (tb w l) := (tb_spec w l).2.2
theorem below_tb {B : Nat} {a w : World} (h : Below B a w) (hB : B ≤ w.heap.size) (l : List UInt8) : Below B a (tb w l) := h.trans ((tb_below w l).mono hB)
theorem Bs.ext {w w' : World} {v : Value} {l : List UInt8} (h : Bs w w.heap.size v l) (hb : Below w.heap.size w w') : Bs w' w'.heap.size v l := (h.below hb).more hb.size
/-- What a slice of bytes says as a text, in every world to come. -/
def StrOf (w : World) (v : Value) (l : List UInt8) : Prop := ∀ x, Below w.heap.size w x → (convert 25 9 v).run Try.prog x = .ok (Sv l) x
theorem Bs.str {w : World} {v : Value} {l : List UInt8} (h : Bs w w.heap.size v l) : StrOf w v l := fun _ hx => run_to_string (h.below hx)
theorem StrOf.here {w : World} {v : Value} {l : List UInt8} (h : StrOf w v l) : (convert 25 9 v).run Try.prog w = .ok (Sv l) w := h w (Below.refl _ _)
theorem StrOf.tb {w : World} {v : Value} {l : List UInt8} (h : StrOf w v l) (k : List UInt8) : (convert 25 9 v).run Try.prog (tb w k) = .ok (Sv l) (tb w k) := h _ (tb_below w k)
theorem ext_tb {w u : World} {k : List UInt8} (h : Below (tb w k).heap.size (tb w k) u) : Below w.heap.size w u := ext_trans (tb_below w k) h
theorem ext_drew2 {w u : World} (h : Below w.drew.heap.size w.drew u) : Below w.heap.size w u := ext_trans (ext_drew w) h
/-- s[k:] where something is left. -/
theorem run_slice_tail (A : Option Addr) (k n len cap : Nat) (hl : len = k + n) (hn : 1 ≤ n) (hc : len ≤ cap) (u : World) :
    (Instr.slice 25 (.slice A len cap) (some (.int .i64 (k : Int))) none none).run Try.prog u = .ok (.slice (A.map (·.add k)) n (cap - k)) u := by
  have he : Try.prog.elem 25 = 5 := by simp [Program.elem, und_bytes]
  obtain ⟨i0, hi, hz0, hz1, hz2⟩ := info_parts info_u8
  rw [run_slice_l u 25 A len cap (by rw [he]; exact und_bytes) .i64 (k : Int) (by omega) (by omega), he]
  have hs : (sizeOf 5).run Try.prog u = .ok 1 u := by simp [sizeOf, typeInfo, hi, hz1]
  rw [hs]
  show Result.ok (sliced A (k : Int).toNat len cap 1) u = _
  simp only [sliced, Int.toNat_natCast, Nat.mul_one]
  rw [if_neg (by omega), show len - k = n by omega]
theorem run_sliceAt_tail (A : Option Addr) (k n len cap : Nat) (hl : len = k + n) (hn : 1 ≤ n) (hc : len ≤ cap) (u : World) :
    (Instr.sliceAt 25 (.slice A len cap) (some (.int .i64 (k : Int))) none none).run Try.prog u = .ok (.slice (A.map (·.add k)) n (cap - k)) u := by
  have he : Try.prog.elem 25 = 5 := by simp [Program.elem, und_bytes]
  rw [run_sliceAt_slice u _ _ _ _ _ (by rw [he]; exact und_bytes)]
  exact run_slice_tail A k n len cap hl hn hc u
end Go.Proofs.Ytdjbgojdkaipfaa
