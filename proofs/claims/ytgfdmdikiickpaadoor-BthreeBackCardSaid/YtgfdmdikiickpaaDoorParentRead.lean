/-
  Walk of parent.Read.
-/
import Derived.Test.YtgfdmdikiickpaaDoorParent
import Derived.Test.YtgfdmdikiickpaaDoorBits
import Derived.Deep.DeepCutAuto
namespace Go.Proofs.YtgfdmdikiickpaaDoor
open Go.RowKit

theorem and1_fin : ∀ n : Fin 256, bits .and .u8 (n.val : Int) 1 = (n.val : Int) % 2 := by decide +kernel
theorem u8_and1 (f : Int) (h0 : 0 ≤ f) (h1 : f ≤ 255) : bits .and .u8 f 1 = f % 2 := by
  have := and1_fin ⟨f.toNat, by omega⟩
  rw [show ((f.toNat : Nat) : Int) = f by omega] at this
  exact this
/-- What is read as a header. -/
def hBad (c : Int) : Int × List UInt8 × List UInt8 × Int × Int := (0, zb 16, zb 8, 0, c)
def verBad (s : List UInt8) : Prop := oneV (pV s) = 255 ∨ (oneV (pV s) = 0 ∧ 55 < s.length) ∨ (55 < s.length ∧ byteAt s 55 ≠ 45)
instance (s : List UInt8) : Decidable (verBad s) := by unfold verBad; infer_instance
def readH (s : List UInt8) : Int × List UInt8 × List UInt8 × Int × Int :=
  if splitOk s = true then
    if oneOk (pV s) = true ∧ oneOk (pF s) = true then
      if verBad s then hBad 15
      else if traceC (pT s) = 3 ∨ spanC (pX s) = 3 then hBad 3
      else if traceC (pT s) = 0 ∧ spanC (pX s) = 0 then (oneV (pV s), traceT (pT s), spanT (pX s), if 0 < oneV (pV s) then oneV (pF s) % 2 else oneV (pF s), 0)
      else hBad 10
    else hBad 3
  else hBad 3
def hdrOut (r : Int × List UInt8 × List UInt8 × Int × Int) : Value := .tuple #[Hv r.1 r.2.1 r.2.2.1 r.2.2.2.1, .int .i64 r.2.2.2.2]
theorem hdrOut_bad (c : Int) : hdrOut (hBad c) = .tuple #[Hv 0 (zb 16) (zb 8) 0, .int .i64 c] := rfl
end Go.Proofs.YtgfdmdikiickpaaDoor
