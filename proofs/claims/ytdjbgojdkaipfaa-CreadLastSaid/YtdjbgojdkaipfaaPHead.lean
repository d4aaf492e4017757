/-
  The heads of Thrift's compact form, as plain functions of the bytes ahead.
-/
import Derived.Test.YtdjbgojdkaipfaaVarRead
import Derived.Test.YtdjbgojdkaipfaaWord
namespace Go.Proofs.Ytdjbgojdkaipfaa
open Go.RowKit

/-- What a reading does to a cursor: the code that it ends with; how many bytes it goes past, if nothing is wrong. -/
structure Rd (c c' : Cu) (K : Int) (n : Nat) : Prop where
  s : c'.s = c.s
  en : c'.en = c.en
  fit : c'.fit
  bad : c.code ≠ 0 → c' = c
  good : c.code = 0 → c'.code = K ∧ (K = 0 → c' = { c with pos := c.pos + n })
theorem Rd.refl_bad {c : Cu} (h : c.code ≠ 0) (hf : c.fit) (K : Int) (n : Nat) : Rd c c K n := ⟨rfl, rfl, hf, fun _ => rfl, fun h0 => absurd h0 h⟩
def isK (k : Int) : Bool := decide (1 ≤ k ∧ k ≤ 12)
def inR (n : Int) : Bool := decide (-32768 ≤ n ∧ n ≤ 32767)
/-- A field's head behind a field of a number: the code, the bytes gone past, the number, the kind. -/
def fieldR (last : Int) : List UInt8 → Int × Nat × Int × Int
  | [] => (1, 0, 0, 0)
  | b :: r =>
    if bi b = 0 then (0, 1, 0, 0)
    else if isK (bi b % 16) = false then (7, 0, 0, 0)
    else if 0 < bi b / 16 then (if inR (last + bi b / 16) = true then (0, 1, last + bi b / 16, bi b % 16) else (4, 0, 0, 0))
    else if vcode r = 0 then (if inR (zagV (vnum r)) = true then (0, 1 + vlen 10 r, zagV (vnum r), bi b % 16) else (4, 0, 0, 0))
    else (vcode r, 0, 0, 0)
def sizeR (a : List UInt8) : Int × Nat × Int := if vcode a = 0 then (if vnum a ≤ 2147483647 then (0, vlen 10 a, vnum a) else (4, 0, 0)) else (vcode a, 0, 0)
theorem ahead_cons {c : Cu} (h : c.pos < c.en) (hf : c.fit) : c.ahead = UInt8.ofNat (byteAt c.s c.pos).toNat :: ({ c with pos := c.pos + 1 } : Cu).ahead := by
  have l2 := hf.le2
  have hl : c.pos < (c.s.take c.en).length := by rw [List.length_take]; omega
  have hs : c.pos < c.s.length := by omega
  show (c.s.take c.en).drop c.pos = _ :: (c.s.take c.en).drop (c.pos + 1)
  rw [List.drop_eq_getElem_cons hl, byteAt_ofNat c.s c.pos hs, List.getElem_take]
theorem bi_ofByteAt (l : List UInt8) (k : Nat) : bi (UInt8.ofNat (byteAt l k).toNat) = byteAt l k := by
  have h0 := byteAt_lo l k
  have h1 := byteAt_hi l k
  unfold bi
  rw [UInt8.toNat_ofNat']; omega
theorem ahead_nil {c : Cu} (h : ¬ c.pos < c.en) : c.ahead = [] := by
  show (c.s.take c.en).drop c.pos = []
  apply List.drop_eq_nil_of_le
  rw [List.length_take]; omega
end Go.Proofs.Ytdjbgojdkaipfaa
