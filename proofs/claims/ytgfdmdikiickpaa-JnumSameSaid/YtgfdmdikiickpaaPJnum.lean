/-
  JSON's numbers, as plain functions of the bytes ahead.
-/
import Derived.Test.YtgfdmdikiickpaaRd
namespace Go.Proofs.Ytgfdmdikiickpaa
open Go.RowKit

def isD (b : Int) : Bool := decide (48 ≤ b ∧ b ≤ 57)
def runD : List UInt8 → Nat
  | [] => 0
  | b :: r => if isD (bi b) = true then runD r + 1 else 0
def digR (a : List UInt8) : Int × Nat := if runD a = 0 then (if a = [] then (1, 0) else (3, 0)) else (0, runD a)
def eatN (m : List UInt8) : List UInt8 → Nat
  | [] => 0
  | b :: _ => if b ∈ m then 1 else 0
def eatR (m : List UInt8) (a : List UInt8) : Int × Nat := (0, eatN m a)
def wholeR (a : List UInt8) : Int × Nat := if eatN [48] a = 1 then (0, 1) else digR a
def fracR (a : List UInt8) : Int × Nat := if eatN [46] a = 1 then seqR (0, 1) digR a else (0, 0)
def expR (a : List UInt8) : Int × Nat := if eatN [101, 69] a = 1 then seqR (0, 1) (fun b => seqR (0, eatN [43, 45] b) digR b) a else (0, 0)
def numR (a : List UInt8) : Int × Nat := seqR (0, eatN [45] a) (fun b => seqR (wholeR b) (fun d => seqR (fracR d) expR d) b) a
theorem runD_le : ∀ a : List UInt8, runD a ≤ a.length
  | [] => by simp [runD]
  | b :: r => by
    have := runD_le r
    simp only [runD, List.length_cons]
    split <;> omega
theorem eatN_le (m a : List UInt8) : eatN m a ≤ 1 ∧ eatN m a ≤ a.length := by
  cases a with
  | nil => simp [eatN]
  | cons b r => simp only [eatN, List.length_cons]; split <;> omega
theorem runD_at {c : Cu} (hc : c.pos < c.en) (hf : c.fit) : runD c.ahead = if isD (byteAt c.s c.pos) = true then runD ({ c with pos := c.pos + 1 } : Cu).ahead + 1 else 0 := by
  rw [ahead_cons hc hf]
  simp only [runD, bi_ofByteAt]
theorem runD_none {c : Cu} (hc : ¬ c.pos < c.en) : runD c.ahead = 0 := by rw [ahead_nil hc]; rfl
theorem ofByte_mem (l m : List UInt8) (k : Nat) : UInt8.ofNat (byteAt l k).toNat ∈ m ↔ ∃ b ∈ m, byteAt l k = bi b := by
  have h := bi_ofByteAt l k
  constructor
  · intro hm; exact ⟨_, hm, h.symm⟩
  · rintro ⟨b, hb, e⟩
    have : UInt8.ofNat (byteAt l k).toNat = b := bi_inj (by rw [h, e])
    rwa [this]
end Go.Proofs.Ytgfdmdikiickpaa
