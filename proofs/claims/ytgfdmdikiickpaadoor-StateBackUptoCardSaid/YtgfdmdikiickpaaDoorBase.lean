/-
  Small general facts for the walks: texts as lists of bytes.
-/
import Derived.Test.YtgfdmdikiickpaaDoorProg
import Derived.WalkKit
import Derived.WalkSpells
import Derived.WalkLawsBesides
import Derived.Deep.QuietTactic
import Derived.BigQuiet
import Derived.StillTailTactics
namespace Go.Proofs.YtgfdmdikiickpaaDoor
open Go.RowKit

theorem hid {p : Prop} (h : p) : Hid p := h

/-- A text, as the list of its bytes. -/
def Sv (l : List UInt8) : Value := .string ⟨l.toArray⟩
/-- The byte at a place, as a number. -/
def byteAt (l : List UInt8) (k : Nat) : Int := ((l.getD k 0).toNat : Int)

@[go_sem] theorem string_Sv (l : List UInt8) : Value.string ⟨l.toArray⟩ = Sv l := rfl
theorem Sv_of (s : ByteArray) : Value.string s = Sv s.data.toList := rfl
@[go_sem] theorem Sv_inj (a b : List UInt8) : (Sv a = Sv b) = (a = b) := by
  simp [Sv]

theorem byteAt_lo (l : List UInt8) (k : Nat) : 0 ≤ byteAt l k := by unfold byteAt; omega
theorem byteAt_hi (l : List UInt8) (k : Nat) : byteAt l k ≤ 255 := by unfold byteAt; have := (l.getD k 0).toNat_lt; omega
@[go_sem] theorem byteAt_drop (l : List UInt8) (i k : Nat) : byteAt (l.drop i) k = byteAt l (i + k) := by
  simp [byteAt, List.getD, List.getElem?_drop]
theorem byteAt_take (l : List UInt8) (n k : Nat) (h : k < n) : byteAt (l.take n) k = byteAt l k := by
  simp [byteAt, List.getD, h]
theorem byteAt_app_left (a b : List UInt8) (k : Nat) (h : k < a.length) : byteAt (a ++ b) k = byteAt a k := by
  simp [byteAt, List.getD, List.getElem?_append, h]
theorem byteAt_app_right (a b : List UInt8) (k : Nat) (h : a.length ≤ k) : byteAt (a ++ b) k = byteAt b (k - a.length) := by
  simp [byteAt, List.getD, List.getElem?_append, Nat.not_lt.2 h]
theorem byteAt_ofNat (l : List UInt8) (k : Nat) (h : k < l.length) : UInt8.ofNat (byteAt l k).toNat = l[k] := by
  simp [byteAt, List.getD, h]
theorem byteAt_get (l : List UInt8) (k : Nat) (h : k < l.length) : byteAt l k = (l[k].toNat : Int) := by
  simp [byteAt, List.getD, h]

section
variable {P : Program} (w : World)

@[go_sem] theorem run_len_Sv (t ty : TypeId) (l : List UInt8) (h : P.underlying t = some .string) :
    (Builtin.len_ #[t] ty #[Sv l]).run P w = .ok (.int .i64 l.length) w := by
  rw [Sv, run_len_string w t ty _ h]; rfl

@[go_sem] theorem run_index_Sv (t : TypeId) (l : List UInt8) (k : IntKind) (i : Int) (h : P.underlying t = some .string) :
    (Instr.index t (Sv l) (.int k i)).run P w =
      if 0 ≤ i ∧ i < (l.length : Int) then .ok (.int .u8 (byteAt l i.toNat)) w
      else (boundsPanic k i l.length .index).run P w := by
  rw [Sv, run_index_string w t _ k i h]
  by_cases hi : 0 ≤ i ∧ i < (l.length : Int)
  · have hi' : 0 ≤ i ∧ i < ((⟨l.toArray⟩ : ByteArray).size : Int) := hi
    have hn : i.toNat < l.length := by omega
    rw [dif_pos hi', if_pos hi]
    congr 2
    simp [byteAt, List.getD, hn]; rfl
  · have hi' : ¬ (0 ≤ i ∧ i < ((⟨l.toArray⟩ : ByteArray).size : Int)) := hi
    rw [dif_neg hi', if_neg hi]; rfl

theorem extract_Sv (l : List UInt8) (i j : Nat) : Value.string ((⟨l.toArray⟩ : ByteArray).extract i j) = Sv ((l.drop i).take (j - i)) := by
  have : ((⟨l.toArray⟩ : ByteArray).extract i j) = ⟨((l.drop i).take (j - i)).toArray⟩ := by
    apply ByteArray.ext
    rw [ByteArray.data_extract]
    apply Array.ext'
    simp [List.extract_eq_take_drop]
  rw [this]; rfl

@[go_sem] theorem run_slice_Sv (t : TypeId) (l : List UInt8) (k k' : IntKind) (i j : Int) (h : P.underlying t = some .string) :
    (Instr.slice t (Sv l) (some (.int k i)) (some (.int k' j)) none).run P w =
      if 0 ≤ j ∧ j ≤ (l.length : Int) then
        (if 0 ≤ i ∧ i ≤ j then .ok (Sv ((l.drop i.toNat).take (j.toNat - i.toNat))) w
         else ((boundsPanic k i j.toNat .sliceB : Sem Nat).run P w).andThen fun a w' => .ok (.string ((⟨l.toArray⟩ : ByteArray).extract a j.toNat)) w')
      else ((boundsPanic k' j l.length .sliceAlen : Sem Nat).run P w).andThen fun b w' =>
        ((Instr.sliceBound (.int k i) b .sliceB).run P w').andThen fun a w'' => .ok (.string ((⟨l.toArray⟩ : ByteArray).extract a b)) w'' := by
  rw [Sv, run_slice_string_if w t _ k k' i j h, extract_Sv]; rfl

@[go_sem] theorem run_slice_from_Sv (t : TypeId) (l : List UInt8) (k : IntKind) (i : Int) (h : P.underlying t = some .string) :
    (Instr.slice t (Sv l) (some (.int k i)) none none).run P w =
      if 0 ≤ i ∧ i ≤ (l.length : Int) then .ok (Sv (l.drop i.toNat)) w else ((boundsPanic k i l.length .sliceB : Sem Nat).run P w).andThen fun a w' => .ok (.string ((⟨l.toArray⟩ : ByteArray).extract a l.length)) w' := by
  rw [Sv, run_slice_string_from_if w t _ k i h, extract_Sv]
  have e : (l.drop i.toNat).take ((⟨l.toArray⟩ : ByteArray).size - i.toNat) = l.drop i.toNat := by
    apply List.take_of_length_le; simp [ByteArray.size]
  rw [e]; rfl

@[go_sem] theorem run_slice_to_Sv (t : TypeId) (l : List UInt8) (k : IntKind) (j : Int) (h : P.underlying t = some .string) :
    (Instr.slice t (Sv l) none (some (.int k j)) none).run P w =
      if 0 ≤ j ∧ j ≤ (l.length : Int) then .ok (Sv (l.take j.toNat)) w else ((boundsPanic k j l.length .sliceAlen : Sem Nat).run P w).andThen fun a w' => .ok (.string ((⟨l.toArray⟩ : ByteArray).extract 0 a)) w' := by
  rw [Sv, run_slice_string_to_if w t _ k j h, extract_Sv]
  simp only [List.drop_zero, Nat.sub_zero]; rfl
end

@[go_sem] theorem run_range_Sv {P : Program} (w : World) (t : TypeId) (l : List UInt8) (h : P.underlying t = some .string) :
    (Instr.range t (Sv l)).run P w = .ok (.pointer (some ⟨w.heap.size, 0, none⟩)) (w.iter ⟨l.toArray⟩ 0) := by
  rw [Sv, run_range_string w t _ h]

@[go_sem high] theorem cells_match (l : List UInt8) : Value.cells.match_1 (fun _ => Array Value) (Sv l) (fun cs => cs) (fun v => #[v]) = #[Sv l] := rfl
@[go_sem high] theorem cells_Sv (l : List UInt8) : (Sv l).cells = #[Sv l] := rfl
@[go_sem] theorem run_store_Sv {P : Program} (w : World) (a : Addr) (m : Mode) (l : List UInt8) : (store a (Sv l) m).run P w = stored P w a (Sv l) m := run_store P w a _ m rfl
@[go_sem] theorem binOp_Sv_leq (t : TypeId) (a b : List UInt8) : binOp .leq t (Sv a) (Sv b) = pure (.bool (Op.bytesLess a b || a == b)) := by simp [binOp, Op.stringOp, Sv]
@[go_sem] theorem binOp_Sv_geq (t : TypeId) (a b : List UInt8) : binOp .geq t (Sv a) (Sv b) = pure (.bool !(Op.bytesLess a b)) := by simp [binOp, Op.stringOp, Sv]
@[go_sem] theorem run_equalIn_Sv {P : Program} (w : World) (d : Nat) (t : TypeId) (a b : List UInt8) (h : P.underlying t = some .string) : (Op.equalIn (d + 1) t (Sv a) (Sv b)).run P w = .ok (a == b) w := by
  rw [Sv, Sv, run_equalIn_string _ _ _ _ _ h]; simp
@[go_sem] theorem eqGuard_at_Sv (op : BinOp) (t : TypeId) (x y : Operand) (l : List UInt8) (v : Value) : eqGuard op t x y (Sv l) v = pure () := by cases op <;> rfl
@[go_sem] theorem binOp_Sv_eql (t : TypeId) (a b : List UInt8) : binOp .eql t (Sv a) (Sv b) = pure (.bool (a == b)) := by simp [binOp, Op.stringOp, Sv]
@[go_sem] theorem binOp_Sv_neq (t : TypeId) (a b : List UInt8) : binOp .neq t (Sv a) (Sv b) = pure (.bool !(a == b)) := by simp [binOp, Op.stringOp, Sv]
@[go_sem] theorem binOp_Sv_lss (t : TypeId) (a b : List UInt8) : binOp .lss t (Sv a) (Sv b) = pure (.bool (Op.bytesLess a b)) := by simp [binOp, Op.stringOp, Sv]
@[go_sem] theorem binOp_Sv_gtr (t : TypeId) (a b : List UInt8) : binOp .gtr t (Sv a) (Sv b) = pure (.bool !(Op.bytesLess a b || a == b)) := by simp [binOp, Op.stringOp, Sv]
@[go_sem] theorem run_add_Sv {P : Program} (w : World) (t : TypeId) (a b : List UInt8) : (binOp .add t (Sv a) (Sv b)).run P w =
    if a.length + b.length > 9223372036854775807 then .halt (.unsupported (.resourceLimit "string concatenation: a sum of the lengths that is no int")) w else .ok (Sv (a ++ b)) w := by
  have e : binOp .add t (Sv a) (Sv b) = Op.stringOp .add ⟨a.toArray⟩ ⟨b.toArray⟩ := by simp [binOp, Sv]
  rw [e, run_string_add_if, ByteArray.mk_append_mk]; rfl
end Go.Proofs.YtgfdmdikiickpaaDoor
