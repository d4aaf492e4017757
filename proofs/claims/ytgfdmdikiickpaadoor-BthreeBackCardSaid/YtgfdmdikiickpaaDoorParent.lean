/-
  Walks of package parent: the parts of a header's text, and reading it.
-/
import Derived.Test.YtgfdmdikiickpaaDoorHdr
import Derived.Test.YtgfdmdikiickpaaDoorIdent
namespace Go.Proofs.YtgfdmdikiickpaaDoor
open Go.RowKit

theorem results_tmp5 {fn : Func} {t u v x y : Tmp} (h : fn.results = #[.tmp t, .tmp u, .tmp v, .tmp x, .tmp y]) (tmps : Array Value) (P : Program) (w : World) :
    (results fn tmps).run P w = .ok (.tuple #[tmps.getD t undef, tmps.getD u undef, tmps.getD v undef, tmps.getD x undef, tmps.getD y undef]) w := by simp [results, h]
def splitOk (s : List UInt8) : Bool := decide (55 ≤ s.length ∧ byteAt s 2 = 45 ∧ byteAt s 35 = 45 ∧ byteAt s 52 = 45)
def pV (s : List UInt8) : List UInt8 := s.take 2
def pT (s : List UInt8) : List UInt8 := (s.drop 3).take 32
def pX (s : List UInt8) : List UInt8 := (s.drop 36).take 16
def pF (s : List UInt8) : List UInt8 := (s.drop 53).take 2
def splitOut (s : List UInt8) : Value := if splitOk s = true then .tuple #[Sv (pV s), Sv (pT s), Sv (pX s), Sv (pF s), .bool true] else .tuple #[Sv [], Sv [], Sv [], Sv [], .bool false]
def oneV (s : List UInt8) : Int := match hexDec s with
  | some b => if b.length = 1 then byteAt b 0 else 0
  | none => 0
def oneOk (s : List UInt8) : Bool := match hexDec s with
  | some b => decide (b.length = 1)
  | none => false
theorem oneV_bd (s : List UInt8) : 0 ≤ oneV s ∧ oneV s ≤ 255 := by
  unfold oneV
  split
  · split
    · exact ⟨byteAt_lo _ _, byteAt_hi _ _⟩
    · omega
  · omega
end Go.Proofs.YtgfdmdikiickpaaDoor
