/-
  Texts for the laws of this seat, merged: Base, PSplit, Mem, Bytes, PHexa, PState, PStateB, Arr, Agg, Bits, Hexa, HexaPut, HexaRef, Ident, PWord, PLay, IdentRef, PB3, Steady, Token, Chain, TokenM, IdentRefB, Held.
-/
import Derived.Test.YtgfdmdikiickpaaGreatDoorProg
import Derived.WalkKit
import Derived.WalkSpells
import Derived.WalkLawsBesides
import Derived.Deep.QuietTactic
import Derived.BigQuiet
import Derived.StillTailTactics
import Derived.Lib.SplitLaws
import Derived.Laws.OwnMore
import Derived.Deep.AppendLies
import Derived.Deep.Draws
import Derived.Maps.AppendAt
import Derived.RegionTactic
import Derived.OwnWalk
import Derived.Laws.Rows
import Derived.Lib.OthersKept
import Derived.Laws.IdiomStrings
import Derived.Lib.SlBytesConst
import Derived.Laws.CopyOwn
import Derived.Laws.MakeOwn
import Derived.Laws.BytesArg
import Derived.Outline
import Derived.Deep.DeepFit
import Derived.Lib.SlTrimSet
import Derived.Lib.Join
import Derived.Stop.BytesEq
import Derived.Lib.BufferWrite
import Derived.Laws.BitsAllLaws
import Derived.Laws.BitsLemmas
import Derived.Deep.RegionHeld3
import Derived.Still
import Derived.OrdersHeld
import Derived.Laws.Tables
import Derived.StillTail
import Derived.Deep.RegionHeld
/-! Base -/
namespace Go.Proofs.YtgfdmdikiickpaaGreatDoor
open Go.RowKit

theorem hid {p : Prop} (h : p) : Hid p := h

/-- A text, as the list of its bytes. -/
def Sv (l : List UInt8) : Value := .string ⟨l.toArray⟩
/-- The byte at a place, as a number. -/
def byteAt (l : List UInt8) (k : Nat) : Int := ((l.getD k 0).toNat : Int)

@[go_sem] theorem string_Sv (l : List UInt8) : Value.string ⟨l.toArray⟩ = Sv l := rfl
theorem Sv_of (s : ByteArray) : Value.string s = Sv s.data.toList := rfl
@[go_sem] theorem Sv_inj (a b : List UInt8) : (Sv a = Sv b) = (a = b) := by
  simp [Sv]

theorem byteAt_lo (l : List UInt8) (k : Nat) : 0 ≤ byteAt l k := by unfold byteAt; omega
theorem byteAt_hi (l : List UInt8) (k : Nat) : byteAt l k ≤ 255 := by unfold byteAt; have := (l.getD k 0).toNat_lt; omega
@[go_sem] theorem byteAt_drop (l : List UInt8) (i k : Nat) : byteAt (l.drop i) k = byteAt l (i + k) := by
  simp [byteAt, List.getD, List.getElem?_drop]
theorem byteAt_take (l : List UInt8) (n k : Nat) (h : k < n) : byteAt (l.take n) k = byteAt l k := by
  simp [byteAt, List.getD, h]
theorem byteAt_app_left (a b : List UInt8) (k : Nat) (h : k < a.length) : byteAt (a ++ b) k = byteAt a k := by
  simp [byteAt, List.getD, List.getElem?_append, h]
theorem byteAt_app_right (a b : List UInt8) (k : Nat) (h : a.length ≤ k) : byteAt (a ++ b) k = byteAt b (k - a.length) := by
  simp [byteAt, List.getD, List.getElem?_append, Nat.not_lt.2 h]
theorem byteAt_ofNat (l : List UInt8) (k : Nat) (h : k < l.length) : UInt8.ofNat (byteAt l k).toNat = l[k] := by
  simp [byteAt, List.getD, h]
theorem byteAt_get (l : List UInt8) (k : Nat) (h : k < l.length) : byteAt l k = (l[k].toNat : Int) := by
  simp [byteAt, List.getD, h]

section
variable {P : Program} (w : World)

@[go_sem] theorem run_len_Sv (t ty : TypeId) (l : List UInt8) (h : P.underlying t = some .string) :
    (Builtin.len_ #[t] ty #[Sv l]).run P w = .ok (.int .i64 l.length) w := by
  rw [Sv, run_len_string w t ty _ h]; rfl

@[go_sem] theorem run_index_Sv (t : TypeId) (l : List UInt8) (k : IntKind) (i : Int) (h : P.underlying t = some .string) :
    (Instr.index t (Sv l) (.int k i)).run P w =
      if 0 ≤ i ∧ i < (l.length : Int) then .ok (.int .u8 (byteAt l i.toNat)) w
      else (boundsPanic k i l.length .index).run P w := by
  rw [Sv, run_index_string w t _ k i h]
  by_cases hi : 0 ≤ i ∧ i < (l.length : Int)
  · have hi' : 0 ≤ i ∧ i < ((⟨l.toArray⟩ : ByteArray).size : Int) := hi
    have hn : i.toNat < l.length := by omega
    rw [dif_pos hi', if_pos hi]
    congr 2
    simp [byteAt, List.getD, hn]; rfl
  · have hi' : ¬ (0 ≤ i ∧ i < ((⟨l.toArray⟩ : ByteArray).size : Int)) := hi
    rw [dif_neg hi', if_neg hi]; rfl

theorem extract_Sv (l : List UInt8) (i j : Nat) : Value.string ((⟨l.toArray⟩ : ByteArray).extract i j) = Sv ((l.drop i).take (j - i)) := by
  have : ((⟨l.toArray⟩ : ByteArray).extract i j) = ⟨((l.drop i).take (j - i)).toArray⟩ := by
    apply ByteArray.ext
    rw [ByteArray.data_extract]
    apply Array.ext'
    simp [List.extract_eq_take_drop]
  rw [this]; rfl

@[go_sem] theorem run_slice_Sv (t : TypeId) (l : List UInt8) (k k' : IntKind) (i j : Int) (h : P.underlying t = some .string) :
    (Instr.slice t (Sv l) (some (.int k i)) (some (.int k' j)) none).run P w =
      if 0 ≤ j ∧ j ≤ (l.length : Int) then
        (if 0 ≤ i ∧ i ≤ j then .ok (Sv ((l.drop i.toNat).take (j.toNat - i.toNat))) w
         else ((boundsPanic k i j.toNat .sliceB : Sem Nat).run P w).andThen fun a w' => .ok (.string ((⟨l.toArray⟩ : ByteArray).extract a j.toNat)) w')
      else ((boundsPanic k' j l.length .sliceAlen : Sem Nat).run P w).andThen fun b w' =>
        ((Instr.sliceBound (.int k i) b .sliceB).run P w').andThen fun a w'' => .ok (.string ((⟨l.toArray⟩ : ByteArray).extract a b)) w'' := by
  rw [Sv, run_slice_string_if w t _ k k' i j h, extract_Sv]; rfl

@[go_sem] theorem run_slice_from_Sv (t : TypeId) (l : List UInt8) (k : IntKind) (i : Int) (h : P.underlying t = some .string) :
    (Instr.slice t (Sv l) (some (.int k i)) none none).run P w =
      if 0 ≤ i ∧ i ≤ (l.length : Int) then .ok (Sv (l.drop i.toNat)) w else ((boundsPanic k i l.length .sliceB : Sem Nat).run P w).andThen fun a w' => .ok (.string ((⟨l.toArray⟩ : ByteArray).extract a l.length)) w' := by
  rw [Sv, run_slice_string_from_if w t _ k i h, extract_Sv]
  have e : (l.drop i.toNat).take ((⟨l.toArray⟩ : ByteArray).size - i.toNat) = l.drop i.toNat := by
    apply List.take_of_length_le; simp [ByteArray.size]
  rw [e]; rfl

@[go_sem] theorem run_slice_to_Sv (t : TypeId) (l : List UInt8) (k : IntKind) (j : Int) (h : P.underlying t = some .string) :
    (Instr.slice t (Sv l) none (some (.int k j)) none).run P w =
      if 0 ≤ j ∧ j ≤ (l.length : Int) then .ok (Sv (l.take j.toNat)) w else ((boundsPanic k j l.length .sliceAlen : Sem Nat).run P w).andThen fun a w' => .ok (.string ((⟨l.toArray⟩ : ByteArray).extract 0 a)) w' := by
  rw [Sv, run_slice_string_to_if w t _ k j h, extract_Sv]
  simp only [List.drop_zero, Nat.sub_zero]; rfl
end

@[go_sem] theorem run_range_Sv {P : Program} (w : World) (t : TypeId) (l : List UInt8) (h : P.underlying t = some .string) :
    (Instr.range t (Sv l)).run P w = .ok (.pointer (some ⟨w.heap.size, 0, none⟩)) (w.iter ⟨l.toArray⟩ 0) := by
  rw [Sv, run_range_string w t _ h]

@[go_sem high] theorem cells_match (l : List UInt8) : Value.cells.match_1 (fun _ => Array Value) (Sv l) (fun cs => cs) (fun v => #[v]) = #[Sv l] := rfl
@[go_sem high] theorem cells_Sv (l : List UInt8) : (Sv l).cells = #[Sv l] := rfl
@[go_sem] theorem run_store_Sv {P : Program} (w : World) (a : Addr) (m : Mode) (l : List UInt8) : (store a (Sv l) m).run P w = stored P w a (Sv l) m := run_store P w a _ m rfl
@[go_sem] theorem binOp_Sv_leq (t : TypeId) (a b : List UInt8) : binOp .leq t (Sv a) (Sv b) = pure (.bool (Op.bytesLess a b || a == b)) := by simp [binOp, Op.stringOp, Sv]
@[go_sem] theorem binOp_Sv_geq (t : TypeId) (a b : List UInt8) : binOp .geq t (Sv a) (Sv b) = pure (.bool !(Op.bytesLess a b)) := by simp [binOp, Op.stringOp, Sv]
@[go_sem] theorem run_equalIn_Sv {P : Program} (w : World) (d : Nat) (t : TypeId) (a b : List UInt8) (h : P.underlying t = some .string) : (Op.equalIn (d + 1) t (Sv a) (Sv b)).run P w = .ok (a == b) w := by
  rw [Sv, Sv, run_equalIn_string _ _ _ _ _ h]; simp
@[go_sem] theorem eqGuard_at_Sv (op : BinOp) (t : TypeId) (x y : Operand) (l : List UInt8) (v : Value) : eqGuard op t x y (Sv l) v = pure () := by cases op <;> rfl
@[go_sem] theorem binOp_Sv_eql (t : TypeId) (a b : List UInt8) : binOp .eql t (Sv a) (Sv b) = pure (.bool (a == b)) := by simp [binOp, Op.stringOp, Sv]
@[go_sem] theorem binOp_Sv_neq (t : TypeId) (a b : List UInt8) : binOp .neq t (Sv a) (Sv b) = pure (.bool !(a == b)) := by simp [binOp, Op.stringOp, Sv]
@[go_sem] theorem binOp_Sv_lss (t : TypeId) (a b : List UInt8) : binOp .lss t (Sv a) (Sv b) = pure (.bool (Op.bytesLess a b)) := by simp [binOp, Op.stringOp, Sv]
@[go_sem] theorem binOp_Sv_gtr (t : TypeId) (a b : List UInt8) : binOp .gtr t (Sv a) (Sv b) = pure (.bool !(Op.bytesLess a b || a == b)) := by simp [binOp, Op.stringOp, Sv]
@[go_sem] theorem run_add_Sv {P : Program} (w : World) (t : TypeId) (a b : List UInt8) : (binOp .add t (Sv a) (Sv b)).run P w =
    if a.length + b.length > 9223372036854775807 then .halt (.unsupported (.resourceLimit "string concatenation: a sum of the lengths that is no int")) w else .ok (Sv (a ++ b)) w := by
  have e : binOp .add t (Sv a) (Sv b) = Op.stringOp .add ⟨a.toArray⟩ ⟨b.toArray⟩ := by simp [binOp, Sv]
  rw [e, run_string_add_if, ByteArray.mk_append_mk]; rfl
end Go.Proofs.YtgfdmdikiickpaaGreatDoor

/-! PSplit -/
namespace Go.Proofs.YtgfdmdikiickpaaGreatDoor

theorem u8_all {p : UInt8 → Prop} (h : ∀ n : Fin 256, p (UInt8.ofNat n.val)) (b : UInt8) : p b := by
  have := h ⟨b.toNat, b.toNat_lt⟩
  simpa using this
/-- A text, cut at each c. -/
def cutB (c : UInt8) : List UInt8 → List (List UInt8)
  | [] => [[]]
  | x :: r => if x = c then [] :: cutB c r else (x :: (cutB c r).headD []) :: (cutB c r).tail
def glue (cur : List UInt8) (L : List (List UInt8)) : List (List UInt8) := (cur ++ L.headD []) :: L.tail
theorem cutB_eq (c : UInt8) (r : List UInt8) : cutB c (c :: r) = [] :: cutB c r := by
  show (if c = c then _ else _) = _
  rw [if_pos rfl]
theorem cutB_cons {x c : UInt8} (h : x ≠ c) (r : List UInt8) : cutB c (x :: r) = (x :: (cutB c r).headD []) :: (cutB c r).tail := by
  show (if x = c then _ else _) = _
  rw [if_neg h]
theorem cutB_ne (c : UInt8) (s : List UInt8) : cutB c s ≠ [] := by
  cases s with
  | nil => simp [cutB]
  | cons x r => unfold cutB; split <;> simp
theorem glue_nil {L : List (List UInt8)} (h : L ≠ []) : glue [] L = L := by
  cases L with
  | nil => exact absurd rfl h
  | cons a t => rfl
theorem glue_eq (c : UInt8) (cur r : List UInt8) : glue cur (cutB c (c :: r)) = cur :: glue [] (cutB c r) := by
  rw [glue_nil (cutB_ne c r), cutB_eq]
  simp [glue]
theorem glue_ne {x c : UInt8} (h : x ≠ c) (cur r : List UInt8) : glue cur (cutB c (x :: r)) = glue (cur ++ [x]) (cutB c r) := by
  rw [cutB_cons h]
  simp [glue]
theorem glue_end (c : UInt8) (cur : List UInt8) : glue cur (cutB c []) = [cur] := by simp [glue, cutB]
theorem splitK_cons_ne {b c : UInt8} (h : b ≠ c) (k : Nat) (l : List UInt8) : Lib.splitK [c] 0 k (b :: l) = (b :: (Lib.splitK [c] 0 k l).headD []) :: (Lib.splitK [c] 0 k l).tail := by
  cases k with
  | zero => rfl
  | succ k =>
    have hp : ([c] : List UInt8).isPrefixOf (b :: l) = false := by simp [List.isPrefixOf, Ne.symm h]
    have hix : Lib.index (b :: l) [c] = if Lib.index l [c] == -1 then -1 else Lib.index l [c] + 1 := by rw [Lib.index, hp]; simp
    have hge := Lib.index_ge l [c]
    unfold Lib.splitK
    rw [hix]
    by_cases hm : Lib.index l [c] = -1
    · rw [hm]; simp
    · obtain ⟨j, hj⟩ : ∃ j : Nat, Lib.index l [c] = j := ⟨(Lib.index l [c]).toNat, by omega⟩
      rw [hj]
      have e1 : (((j : Nat) : Int) == -1) = false := by rw [beq_eq_false_iff_ne]; omega
      have e2 : (((j : Nat) : Int) + 1 == -1) = false := by rw [beq_eq_false_iff_ne]; omega
      have e3 : (((j : Nat) : Int) + 1).toNat = j + 1 := by omega
      simp [e1, e2, e3]
theorem splitK_cut (c : UInt8) : ∀ s : List UInt8, Lib.splitK [c] 0 (Lib.count s [c]) s = cutB c s
  | [] => by rw [Lib.count_one]; rfl
  | b :: l => by
    by_cases h : b = c
    · subst h
      rw [Lib.count_cons_eq, Nat.add_comm]
      have hix : Lib.index (b :: l) [b] = 0 := by rw [Lib.index]; simp [List.isPrefixOf]
      unfold Lib.splitK
      rw [hix]
      rw [cutB_eq]
      have := splitK_cut b l
      simpa using this
    · rw [Lib.count_cons_ne b c l h, splitK_cons_ne h, splitK_cut c l, cutB_cons h]
/-- What strings.Split gives, at one byte. -/
theorem splitB_cut (c : UInt8) (s : ByteArray) : (Lib.splitB ⟨#[c]⟩ 0 (Lib.countB s ⟨#[c]⟩) s).map (·.data.toList) = cutB c s.data.toList := by
  rw [Lib.splitB_data]
  exact splitK_cut c _
theorem cutB_length (c : UInt8) : ∀ s : List UInt8, (cutB c s).length ≤ s.length + 1
  | [] => by simp [cutB]
  | x :: r => by
    have := cutB_length c r
    unfold cutB
    split
    · simp only [List.length_cons]; omega
    · simp only [List.length_cons, List.length_tail]; omega
theorem cutB_flat (c : UInt8) : ∀ s : List UInt8, ∀ p ∈ cutB c s, p.length ≤ s.length
  | [], p, hp => by simp [cutB] at hp; simp [hp]
  | x :: r, p, hp => by
    have ih := cutB_flat c r
    unfold cutB at hp
    split at hp
    · rcases List.mem_cons.1 hp with rfl | hp
      · simp
      · have := ih p hp; simp only [List.length_cons]; omega
    · rcases List.mem_cons.1 hp with rfl | hp
      · cases hq : cutB c r with
        | nil => exact absurd hq (cutB_ne c r)
        | cons a t =>
          have := ih a (by rw [hq]; simp)
          simp only [List.headD_cons, List.length_cons]; omega
      · have := ih p (List.mem_of_mem_tail hp)
        simp only [List.length_cons]; omega
theorem cutB_none {c : UInt8} : ∀ {s : List UInt8}, c ∉ s → cutB c s = [s]
  | [], _ => rfl
  | x :: r, h => by
    have hx : x ≠ c := fun e => h (by simp [e])
    have hr := cutB_none (s := r) (fun e => h (List.mem_cons_of_mem _ e))
    rw [cutB_cons hx, hr]; rfl
theorem cutB_app {c : UInt8} : ∀ {a : List UInt8}, c ∉ a → ∀ b : List UInt8, cutB c (a ++ c :: b) = a :: cutB c b
  | [], _, b => by simp [cutB]
  | x :: r, h, b => by
    have hx : x ≠ c := fun e => h (by simp [e])
    have hr := cutB_app (a := r) (fun e => h (List.mem_cons_of_mem _ e)) b
    rw [List.cons_append, cutB_cons hx, hr]; rfl
end Go.Proofs.YtgfdmdikiickpaaGreatDoor

/-! Mem -/
namespace Go.Proofs.YtgfdmdikiickpaaGreatDoor
open Go.RowKit

theorem block_of_add (a : Addr) (n : Nat) : (a.add n).block = a.block := by unfold Addr.add; split <;> rfl
theorem add_of_add (a : Addr) (i j : Nat) : (a.add i).add j = a.add (i + j) := by
  unfold Addr.add
  by_cases hi : i = 0 <;> by_cases hj : j = 0 <;> simp [hi, hj, Nat.add_assoc]

theorem below_drewN {B : Nat} {a w : World} (h : Below B a w) (n : Nat) : Below B a (w.drewN n) := ⟨h.os, h.tape, h.output, h.size, h.block⟩
theorem bcell {W w1 : World} (hb : Below W.heap.size W w1) : (∀ b o, b < W.heap.size → w1.cell? ⟨b, o, none⟩ = W.cell? ⟨b, o, none⟩) ∧ (∀ b o, b < W.heap.size → w1.frozen? ⟨b, o, none⟩ = W.frozen? ⟨b, o, none⟩) :=
  ⟨fun b o h => hb.cell (p := ⟨b, o, none⟩) h, fun b o h => hb.frozen (p := ⟨b, o, none⟩) h⟩

theorem ext_trans {a b c : World} (h : Below a.heap.size a b) (k : Below b.heap.size b c) : Below a.heap.size a c := h.trans (k.mono h.size)
theorem ext_alloc (w : World) (o : Obj) : Below w.heap.size w (w.alloc o) := (Below.refl _ _).alloc (Nat.le_refl _) _
theorem ext_drew (w : World) : Below w.heap.size w w.drew := (Below.refl _ _).drew
theorem ext_drewN (w : World) (n : Nat) : Below w.heap.size w (w.drewN n) := below_drewN (Below.refl _ _) n

/-- A slice that reads as a list of values, nil let in. -/
def Reads (w : World) (B size : Nat) (A : Option Addr) (n : Nat) (xs : List Value) : Prop :=
  xs.length = n * size ∧ (0 < n → ∃ ad, A = some ad ∧ ad.block < B ∧ ∀ j u, xs[j]? = some u → w.cell? (ad.add j) = some u)

section
variable {w w' : World} {B B' size n : Nat} {A : Option Addr} {xs : List Value}
theorem Reads.none_ : Reads w B size A 0 [] := ⟨by simp, fun h => absurd h (by omega)⟩
theorem Reads.at_ {k : Nat} (h : Reads w B 1 A n xs) (hk : k < n) : ∃ ad u, A = some ad ∧ ad.block < B ∧ xs[k]? = some u ∧ w.cell? (ad.add k) = some u := by
  obtain ⟨ad, e, hb, hc⟩ := h.2 (by omega)
  have hl : k < xs.length := by have := h.1; omega
  exact ⟨ad, xs[k], e, hb, List.getElem?_eq_getElem hl, hc k _ (List.getElem?_eq_getElem hl)⟩
theorem Reads.keep (h : Reads w B size A n xs) (hk : ∀ p : Addr, p.block < B → w'.cell? p = w.cell? p) : Reads w' B size A n xs :=
  ⟨h.1, fun hn => by
    obtain ⟨ad, e, hb, hc⟩ := h.2 hn
    exact ⟨ad, e, hb, fun j u hu => (hk _ (by rw [block_of_add]; exact hb)).trans (hc j u hu)⟩⟩
theorem Reads.more (h : Reads w B size A n xs) (hB : B ≤ B') : Reads w B' size A n xs :=
  ⟨h.1, fun hn => by
    obtain ⟨ad, e, hb, hc⟩ := h.2 hn
    exact ⟨ad, e, by omega, hc⟩⟩
theorem Reads.below (h : Reads w B size A n xs) (hb : Below B w w') : Reads w' B size A n xs := h.keep fun _ hp => hb.cell hp
theorem Reads.drew (h : Reads w B size A n xs) : Reads w.drew B size A n xs := h
theorem Reads.drewN (h : Reads w B size A n xs) (k : Nat) : Reads (w.drewN k) B size A n xs := h
theorem Reads.alloc (h : Reads w B size A n xs) (hB : B ≤ w.heap.size) (o : Obj) : Reads (w.alloc o) B size A n xs := h.keep fun p hp => World.cell?_alloc_lt w o p (by omega)
theorem Reads.setCell (h : Reads w B size A n xs) {p : Addr} (hB : B ≤ p.block) (u : Value) : Reads (w.setCell p u) B size A n xs :=
  h.keep fun q hq => World.cell?_setCell_other w p q u (fun e => by subst e; omega)
theorem Reads.grown (h : Reads w B size A n xs) {row : Option Nat} (hg : w.grownBy w' row) (hB : B ≤ w.heap.size) (hr : ∀ g, row = some g → B ≤ g) : Reads w' B size A n xs :=
  h.keep fun p hp => World.cell?_of_block (hg.block p.block (by omega) (fun e => by have := hr _ e.symm; omega))
theorem Reads.of_own {base : Nat} {e : TypeId} {c : Nat} (h : w.ownsRow base e size (.slice A n c) n xs) : Reads w w.heap.size size A n xs := by
  refine ⟨h.1, fun hn => ?_⟩
  obtain ⟨g, cap, hv, _, hlt⟩ := h.form hn
  have hA : A = some ⟨g, 0, none⟩ := by injection hv
  subst hA
  exact ⟨_, rfl, hlt, h.cells (g := g) rfl⟩
end

/-- A block that is known whole. -/
def Blk (w : World) (g : Nat) (t : TypeId) (cs : Array Value) : Prop := w.heap[g]? = some (.cells cs t (0, 0))

section
variable {w w' : World} {g : Nat} {t : TypeId} {cs : Array Value}
theorem Blk.lt (h : Blk w g t cs) : g < w.heap.size := by
  rcases Nat.lt_or_ge g w.heap.size with hlt | hge
  · exact hlt
  · unfold Blk at h; rw [Array.getElem?_eq_none hge] at h; cases h
theorem Blk.cell (h : Blk w g t cs) (i : Nat) : w.cell? ⟨g, i, none⟩ = cs[i]? := cell_of_row w g i cs t (0, 0) h
theorem Blk.frozen (h : Blk w g t cs) (i : Nat) : w.frozen? ⟨g, i, none⟩ = false := by
  unfold Blk at h
  simp [World.frozen?, h]
theorem Blk.new (w : World) (t : TypeId) (cs : Array Value) : Blk (w.alloc (.cells cs t)) w.heap.size t cs := heap_alloc_new w _
theorem Blk.drew (h : Blk w g t cs) : Blk w.drew g t cs := h
theorem Blk.drewN (h : Blk w g t cs) (n : Nat) : Blk (w.drewN n) g t cs := h
theorem Blk.alloc (h : Blk w g t cs) (o : Obj) : Blk (w.alloc o) g t cs := (Below.heap_alloc w o g h.lt).trans h
theorem Blk.set_ (h : Blk w g t cs) (i : Nat) (u : Value) : Blk (w.setCell ⟨g, i, none⟩ u) g t (cs.setIfInBounds i u) := by
  unfold Blk at h ⊢
  simp [World.setCell, Array.getElem?_modify, h]
theorem Blk.far (h : Blk w g t cs) {p : Addr} (hp : g ≠ p.block) (u : Value) : Blk (w.setCell p u) g t cs := (Below.heap_setCell w p u g hp).trans h
theorem Blk.below {B : Nat} (h : Blk w g t cs) (hb : Below B w w') (hg : g < B) : Blk w' g t cs := (hb.block g hg).trans h
theorem Blk.grown {row : Option Nat} (h : Blk w g t cs) (hb : w.grownBy w' row) (hg : some g ≠ row) : Blk w' g t cs := (hb.block g h.lt hg).trans h
theorem Blk.ne_ {g' : Nat} {t' : TypeId} {cs' : Array Value} (h : Blk w g t cs) (h' : Blk w g' t' cs') (hne : t ≠ t') : g ≠ g' := by
  rintro rfl
  unfold Blk at h h'
  rw [h] at h'
  injection h' with h'
  injection h' with _ ht
  exact hne ht
theorem own_blk_ne {base : Nat} {e : TypeId} {size n : Nat} {v : Value} {xs : List Value} (h : w.ownsRow base e size v n xs) (hg : Blk w g t cs) (hne : e ≠ t) : v.ownBlock ≠ some g := by
  rcases h.2 with ⟨rfl, _⟩ | ⟨g', cap, cur, rfl, _, hh, _⟩
  · simp [Value.ownBlock]
  · intro he
    have : g' = g := by simpa [Value.ownBlock] using he
    subst this
    exact Blk.ne_ (t := e) hh hg hne rfl
end

theorem size_alloc (w : World) (o : Obj) : (w.alloc o).heap.size = w.heap.size + 1 := by simp
theorem box1 {w w1 : World} {A : Array Value} {tA : TypeId} (hb : Below (w.alloc (.cells A tA)).heap.size (w.alloc (.cells A tA)) w1) :
    Blk w1 w.heap.size tA A ∧ w.heap.size < w1.heap.size ∧ Below w.heap.size w w1 :=
  ⟨Blk.below (Blk.new w _ _) hb (by simp), by have h := hb.size; simp at h; omega, ext_trans (ext_alloc _ _) hb⟩
theorem box2 {w w1 : World} {A B : Array Value} {tA tB : TypeId} (hb : Below ((w.alloc (.cells A tA)).alloc (.cells B tB)).heap.size ((w.alloc (.cells A tA)).alloc (.cells B tB)) w1) :
    Blk w1 w.heap.size tA A ∧ Blk w1 (w.heap.size + 1) tB B ∧ w.heap.size < w1.heap.size ∧ w.heap.size + 1 < w1.heap.size ∧ Below w.heap.size w w1 := by
  refine ⟨Blk.below (Blk.alloc (Blk.new w _ _) _) hb (by simp <;> omega), ?_, by have h := hb.size; simp at h; omega, by have h := hb.size; simp at h; omega, ext_trans (ext_trans (ext_alloc _ _) (ext_alloc _ _)) hb⟩
  have h := Blk.below (Blk.new (w.alloc (.cells A tA)) tB B) hb (by simp)
  rwa [size_alloc] at h
theorem box3 {w w1 : World} {A B C : Array Value} {tA tB tC : TypeId} (hb : Below (((w.alloc (.cells A tA)).alloc (.cells B tB)).alloc (.cells C tC)).heap.size (((w.alloc (.cells A tA)).alloc (.cells B tB)).alloc (.cells C tC)) w1) :
    Blk w1 w.heap.size tA A ∧ Blk w1 (w.heap.size + 1) tB B ∧ Blk w1 (w.heap.size + 1 + 1) tC C ∧ w.heap.size < w1.heap.size ∧ w.heap.size + 1 < w1.heap.size ∧ w.heap.size + 1 + 1 < w1.heap.size ∧ Below w.heap.size w w1 := by
  refine ⟨Blk.below (Blk.alloc (Blk.alloc (Blk.new w _ _) _) _) hb (by simp <;> omega), ?_, ?_, by have h := hb.size; simp at h; omega, by have h := hb.size; simp at h; omega, by have h := hb.size; simp at h; omega, ext_trans (ext_trans (ext_trans (ext_alloc _ _) (ext_alloc _ _)) (ext_alloc _ _)) hb⟩
  · have h := Blk.below (Blk.alloc (Blk.new (w.alloc (.cells A tA)) tB B) _) hb (by simp <;> omega)
    rwa [size_alloc] at h
  · have h := Blk.below (Blk.new ((w.alloc (.cells A tA)).alloc (.cells B tB)) tC C) hb (by simp)
    rwa [size_alloc, size_alloc] at h
theorem blk1 {w : World} {g : Nat} {t : TypeId} {a : Value} (h : Blk w g t #[a]) : w.cell? ⟨g, 0, none⟩ = some a ∧ w.frozen? ⟨g, 0, none⟩ = false := ⟨h.cell 0, h.frozen 0⟩
theorem blk2 {w : World} {g : Nat} {t : TypeId} {a b : Value} (h : Blk w g t #[a, b]) :
    w.cell? ⟨g, 0, none⟩ = some a ∧ w.cell? ⟨g, 1, none⟩ = some b ∧ w.frozen? ⟨g, 0, none⟩ = false ∧ w.frozen? ⟨g, 1, none⟩ = false := ⟨h.cell 0, h.cell 1, h.frozen 0, h.frozen 1⟩
theorem blk3 {w : World} {g : Nat} {t : TypeId} {a b c : Value} (h : Blk w g t #[a, b, c]) :
    w.cell? ⟨g, 0, none⟩ = some a ∧ w.cell? ⟨g, 1, none⟩ = some b ∧ w.cell? ⟨g, 2, none⟩ = some c ∧ w.frozen? ⟨g, 0, none⟩ = false ∧ w.frozen? ⟨g, 1, none⟩ = false ∧ w.frozen? ⟨g, 2, none⟩ = false :=
  ⟨h.cell 0, h.cell 1, h.cell 2, h.frozen 0, h.frozen 1, h.frozen 2⟩
theorem blk4 {w : World} {g : Nat} {t : TypeId} {a b c d : Value} (h : Blk w g t #[a, b, c, d]) :
    w.cell? ⟨g, 0, none⟩ = some a ∧ w.cell? ⟨g, 1, none⟩ = some b ∧ w.cell? ⟨g, 2, none⟩ = some c ∧ w.cell? ⟨g, 3, none⟩ = some d ∧
    w.frozen? ⟨g, 0, none⟩ = false ∧ w.frozen? ⟨g, 1, none⟩ = false ∧ w.frozen? ⟨g, 2, none⟩ = false ∧ w.frozen? ⟨g, 3, none⟩ = false :=
  ⟨h.cell 0, h.cell 1, h.cell 2, h.cell 3, h.frozen 0, h.frozen 1, h.frozen 2, h.frozen 3⟩

/-- Only one block, and what is new, has changed. -/
theorem only_drewN {a w : World} {row : Option Nat} (h : a.grownBy w row) (n : Nat) : a.grownBy (w.drewN n) row := ⟨h.os, h.tape, h.output, h.size, h.block⟩
theorem only_drew {a w : World} {row : Option Nat} (h : a.grownBy w row) : a.grownBy w.drew row := ⟨h.os, h.tape, h.output, h.size, h.block⟩
theorem only_alloc {a w : World} {row : Option Nat} (h : a.grownBy w row) (o : Obj) : a.grownBy (w.alloc o) row :=
  ⟨h.os, h.tape, h.output, Nat.le_trans h.size (by simp), fun i hi hne => (Below.heap_alloc w o i (Nat.lt_of_lt_of_le hi h.size)).trans (h.block i hi hne)⟩
theorem only_setCell {a w : World} {g : Nat} (h : a.grownBy w (some g)) {p : Addr} (hp : p.block = g ∨ a.heap.size ≤ p.block) (u : Value) : a.grownBy (w.setCell p u) (some g) :=
  ⟨h.os, h.tape, h.output, by simpa [World.setCell] using h.size, fun i hi hne => (Below.heap_setCell w p u i (by
    rintro rfl
    rcases hp with hp | hp
    · exact hne (by rw [hp])
    · omega)).trans (h.block i hi hne)⟩
theorem only_of_below {a w : World} (h : Below a.heap.size a w) (row : Option Nat) : a.grownBy w row := ⟨h.os, h.tape, h.output, h.size, fun i hi _ => h.block i hi⟩
theorem below_of_only {a w : World} (h : a.grownBy w none) : Below a.heap.size a w := ⟨h.os, h.tape, h.output, h.size, fun i hi => h.block i hi (by simp)⟩
theorem only_trans {a b c : World} {row : Option Nat} (h : a.grownBy b row) (k : b.grownBy c row) : a.grownBy c row :=
  ⟨k.os.trans h.os, k.tape.trans h.tape, k.output.trans h.output, Nat.le_trans h.size k.size, fun i hi hn => (k.block i (Nat.lt_of_lt_of_le hi h.size) hn).trans (h.block i hi hn)⟩
theorem below_only {B : Nat} {a b c : World} {g : Nat} (h : Below B a b) (k : b.grownBy c (some g)) (hB : B ≤ b.heap.size) (hg : B ≤ g) : Below B a c :=
  h.grown k hB (by intro k hk; injection hk with hk; omega)

theorem iterPos_of {w : World} {k : Nat} {s : ByteArray} {p : Nat} (h : w.heap[k]? = some (.stringIter s p)) : w.iterPos k = p := by simp [World.iterPos, h]
theorem below_iterAt {B : Nat} {a w : World} (h : Below B a w) {k : Nat} (hk : B ≤ k) (s : ByteArray) (p : Nat) : Below B a (w.iterAt k s p) :=
  h.trans ⟨rfl, rfl, rfl, by simp [World.iterAt], fun i hi => Lib.iterAt_other _ _ _ _ _ (by omega)⟩

/-- A byte as a value. -/
def b8 (b : UInt8) : Value := .int .u8 (b.toNat : Int)
def b8s (l : List UInt8) : List Value := l.map b8
@[simp] theorem b8s_length (l : List UInt8) : (b8s l).length = l.length := by simp [b8s]
theorem b8s_append (a b : List UInt8) : b8s (a ++ b) = b8s a ++ b8s b := by simp [b8s]
theorem b8s_one (l : List UInt8) : ∀ u ∈ b8s l, u.oneCell' = true := by
  intro u hu
  simp only [b8s, List.mem_map] at hu
  obtain ⟨b, _, rfl⟩ := hu
  rfl
/-- A byte out of a number. -/
def bt (n : Int) : UInt8 := UInt8.ofNat (n % 256).toNat
theorem b8_bt (n : Int) (h0 : 0 ≤ n) (h1 : n ≤ 255) : b8 (bt n) = .int .u8 n := by
  unfold b8 bt
  have e : n % 256 = n := by omega
  rw [e]
  congr 1
  rw [UInt8.toNat_ofNat']
  omega
/-- The bytes that a slice of the call's own holds. -/
def Own (w : World) (base : Nat) (v : Value) (l : List UInt8) : Prop := w.ownsRow base 5 1 v l.length (b8s l)
/-- The bytes that a slice holds, whosever it is. -/
def Bs (w : World) (B : Nat) (v : Value) (l : List UInt8) : Prop := ∃ A c, v = .slice A l.length c ∧ l.length ≤ c ∧ Reads w B 1 A l.length (b8s l)
theorem Own.bs {w : World} {base : Nat} {v : Value} {l : List UInt8} (h : Own w base v l) : Bs w w.heap.size v l := by
  unfold Own at h
  rcases h.2 with ⟨rfl, hn⟩ | ⟨g, cap, cur, rfl, hb, hg, hnc, _, hs, ht⟩
  · exact ⟨none, 0, by rw [hn], by omega, by simp, fun hn' => by omega⟩
  · exact ⟨_, _, rfl, hnc, Reads.of_own h⟩
end Go.Proofs.YtgfdmdikiickpaaGreatDoor

/-! Bytes -/
namespace Go.Proofs.YtgfdmdikiickpaaGreatDoor
open Go.RowKit

theorem info_u8 : (Tryz.prog.info? 5).map (fun i => (i.zero, i.size, i.bytes)) = some (some (.int .u8 0), 1, 1) := by kernel_rfl
theorem und_bytes : Tryz.prog.underlying 117 = some (.slice 5) := Tryz.underlying117
theorem und_u8 : Tryz.prog.underlying 5 = some (.int .u8) := Tryz.underlying5
theorem und_str : Tryz.prog.underlying 9 = some .string := Tryz.underlying9

theorem add_zero_off (g j : Nat) : (⟨g, 0, none⟩ : Addr).add j = ⟨g, j, none⟩ := by
  unfold Addr.add; split <;> simp_all

/-- string(b) of bytes that read as a list. -/
theorem run_to_string {w : World} {B : Nat} {v : Value} {l : List UInt8} (h : Bs w B v l) :
    (convert 117 9 v).run Tryz.prog w = .ok (Sv l) w := by
  obtain ⟨A, c, rfl, _, hr⟩ := h
  rcases A with _ | ad
  · have hl : l.length = 0 := by
      rcases Nat.eq_zero_or_pos l.length with h0 | h0
      · exact h0
      · obtain ⟨ad, h, _⟩ := hr.2 h0
        cases h
    obtain rfl : l = [] := List.eq_nil_of_length_eq_zero hl
    rw [run_convert_bytes_nil w _ _ und_bytes und_u8 _ _ _ und_str]
    rfl
  · have hcell : ∀ j v, ((l.map fun b => (b.toNat : Int)).map (Value.int .u8))[j]? = some v → w.cell? (ad.add j) = some v := by
      intro j u hu
      have e : (l.map fun b => (b.toNat : Int)).map (Value.int .u8) = b8s l := by simp [b8s, b8]
      rw [e] at hu
      have hj : j < l.length := by
        rcases Nat.lt_or_ge j l.length with h | h
        · exact h
        · rw [List.getElem?_eq_none (by simpa using h)] at hu; cases hu
      obtain ⟨ad', e', _, hc⟩ := hr.2 (by omega)
      injection e' with e'
      subst e'
      exact hc j u hu
    have hl := run_loadCells_list (P := Tryz.prog) w ad _ hcell
    simp only [List.length_map] at hl
    rw [run_convert_bytes_string w _ _ _ _ _ c und_bytes und_u8 und_str, run_bytesToString w ad l.length c _ hl, foldl_push_bytes]
    simp only [Sv, ByteArray.empty, ByteArray.emptyWithCapacity]
    simp [List.map_map, Function.comp_def]
    rfl

/-- []byte(s). -/
theorem run_to_bytes (w : World) (l : List UInt8) : ∃ v w', (convert 9 117 (Sv l)).run Tryz.prog w = .ok v w' ∧ Bs w' w'.heap.size v l ∧ Below w.heap.size w w' := by
  refine ⟨_, _, run_bytes_of_string w _ _ _ _ und_str und_bytes und_u8, ⟨some ⟨w.heap.size, 0, none⟩, _, rfl, grownCap_ge _ _ _ _, by simp, fun hn => ⟨_, rfl, by simp, ?_⟩⟩, ?_⟩
  · intro j u hu
    rw [add_zero_off]
    have hj : j < l.length := by
      rcases Nat.lt_or_ge j l.length with h | h
      · exact h
      · rw [List.getElem?_eq_none (by simpa using h)] at hu; cases hu
    rw [cell_of_row (w.drew.alloc _) w.heap.size j _ _ _ (heap_alloc_new w.drew _)]
    rw [← hu]
    simp only [bytesRow, b8s]
    rw [Array.getElem?_append_left (by simpa using hj)]
    simp only [List.getElem?_map, Array.getElem?_map, List.getElem?_toArray]
    rfl
  · exact ((Below.refl _ _).drew).alloc (by simp) _

theorem wpList_to_bytes {w : World} {ops : Array Oper} {rest : List Oper} {o : Oper} {a : Act} {Q : Exit → Act → World → Prop} (hgd : o.guard = none) (s : Operand)
    (ho : o.op = .convert 9 117 s) (l : List UInt8) (hs : a.eval s = Sv l)
    (h : ∀ v' w', Bs w' w'.heap.size v' l → Below w.heap.size w w' → wpList Tryz.prog ops Q rest (a.put o.dst v') w') : wpList Tryz.prog ops Q (o :: rest) a w := by
  refine wpList_plain hgd fun K hK => ?_
  obtain ⟨v, w', hr, hb, hw⟩ := run_to_bytes w l
  unfold Oper.wp
  simp [execOp, ho, hs, hr, Result.andThen]
  exact hK _ _ (h v w' hb hw)

/-- append of bytes to a slice of the call's own. -/
theorem wp_app {w : World} {o : Oper} {a : Act} {K : Act → World → Prop} {Q : Exit → Act → World → Prop} (s x : Operand)
    (ho : o.op = .call { callee := .builtin .append, args := #[s, x], argTypes := #[117, 117] })
    (w0 : World) (v : Value) (l : List UInt8) (hs : a.eval s = v) (hown : Own w w0.heap.size v l) (hb : Below w0.heap.size w0 w)
    (ad : Addr) (m c : Nat) (news : List UInt8) (hx : a.eval x = .slice (some ad) m c) (hl : news.length = m) (hnews : ∀ j u, (b8s news)[j]? = some u → w.cell? (ad.add j) = some u)
    (hsz : l.length + m ≤ 140737488355328)
    (h : ∀ v' w', Own w' w0.heap.size v' (l ++ news) → Below w0.heap.size w0 w' → K (a.put o.dst v') w') : o.wp Tryz.prog a w K Q := by
  obtain ⟨i0, hi, hz0, hz1, hz2⟩ := info_parts info_u8
  refine wp_append_own w s x _ ho w0.heap.size 5 i0 _ 1 1 und_bytes hi hz0 hz1 hz2 rfl (by omega) v l.length (b8s l) hs hown ad m c (b8s news) hx (by simpa using hl) hnews (b8s_one _)
    (by unfold maxLen; omega) (by omega) hb.size ?_
  intro v' w' h1 h2 _
  refine h v' w' ?_ (hb.grown h2 hb.size fun k hk => (World.ownsRow.lt hown k hk).1)
  unfold Own
  rw [b8s_append, List.length_append, hl]
  exact h1
theorem wpList_app {w : World} {ops : Array Oper} {rest : List Oper} {o : Oper} {a : Act} {Q : Exit → Act → World → Prop} (hgd : o.guard = none) (s x : Operand)
    (ho : o.op = .call { callee := .builtin .append, args := #[s, x], argTypes := #[117, 117] })
    (w0 : World) (v : Value) (l : List UInt8) (hs : a.eval s = v) (hown : Own w w0.heap.size v l) (hb : Below w0.heap.size w0 w)
    (ad : Addr) (m c : Nat) (news : List UInt8) (hx : a.eval x = .slice (some ad) m c) (hl : news.length = m) (hnews : ∀ j u, (b8s news)[j]? = some u → w.cell? (ad.add j) = some u)
    (hsz : l.length + m ≤ 140737488355328)
    (h : ∀ v' w', Own w' w0.heap.size v' (l ++ news) → Below w0.heap.size w0 w' → wpList Tryz.prog ops Q rest (a.put o.dst v') w') : wpList Tryz.prog ops Q (o :: rest) a w :=
  wpList_plain hgd fun _ hK => wp_app s x ho w0 v l hs hown hb ad m c news hx hl hnews hsz fun v' w' h1 h2 => hK _ _ (h v' w' h1 h2)
theorem step_app {w : World} {ops : Array Oper} {o : Oper} {a : Act} {K : Act → World → Prop} {Q : Exit → Act → World → Prop} {E : Prop} (hgd : o.guard = none) (s x : Operand)
    (ho : o.op = .call { callee := .builtin .append, args := #[s, x], argTypes := #[117, 117] })
    (w0 : World) (v : Value) (l : List UInt8) (hs : a.eval s = v) (hown : Own w w0.heap.size v l) (hb : Below w0.heap.size w0 w)
    (ad : Addr) (m c : Nat) (news : List UInt8) (hx : a.eval x = .slice (some ad) m c) (hl : news.length = m) (hnews : ∀ j u, (b8s news)[j]? = some u → w.cell? (ad.add j) = some u)
    (hsz : l.length + m ≤ 140737488355328)
    (h : ∀ v' w', Own w' w0.heap.size v' (l ++ news) → Below w0.heap.size w0 w' → K (a.put o.dst v') w') :
    if Region.wanted o (yielded ops a.tmps) = true then Oper.wp Tryz.prog o a w K Q else E := by
  have hw : Region.wanted o (yielded ops a.tmps) = true := by simp [Region.wanted, hgd]
  rw [if_pos hw]
  exact wp_app s x ho w0 v l hs hown hb ad m c news hx hl hnews hsz h

/-- append(out, x): the new byte lies in a block of its own. -/
theorem cell_new1 (w : World) (n : Int) (t : TypeId) (h0 : 0 ≤ n) (h1 : n ≤ 255) : ∀ j u, (b8s [bt n])[j]? = some u → (w.alloc (.cells #[.int .u8 n] t)).cell? ((⟨w.heap.size, 0, none⟩ : Addr).add j) = some u := by
  intro j u hj
  match j, hj with
  | 0, hj => simp [b8s, b8_bt n h0 h1] at hj; subst hj; simp [Addr.add]
  | j + 1, hj => simp [b8s] at hj
theorem cell_new2 (w : World) (n m : Int) (t : TypeId) (h0 : 0 ≤ n) (h1 : n ≤ 255) (g0 : 0 ≤ m) (g1 : m ≤ 255) : ∀ j u, (b8s [bt n, bt m])[j]? = some u → (w.alloc (.cells #[.int .u8 n, .int .u8 m] t)).cell? ((⟨w.heap.size, 0, none⟩ : Addr).add j) = some u := by
  intro j u hj
  match j, hj with
  | 0, hj => simp [b8s, b8_bt n h0 h1] at hj; subst hj; simp [Addr.add]
  | 1, hj => simp [b8s, b8_bt m g0 g1] at hj; subst hj; simp [Addr.add]
  | j + 2, hj => simp [b8s] at hj
theorem Own.alloc {w : World} {B : Nat} {v : Value} {l : List UInt8} (h : Own w B v l) (o : Obj) : Own (w.alloc o) B v l := World.ownsRow.alloc h o
theorem Own.below {w w' : World} {B : Nat} {v : Value} {l : List UInt8} (h : Own w B v l) (hb : Below w.heap.size w w') : Own w' B v l :=
  World.ownsRow.kept h (only_of_below hb none) (by cases v.ownBlock <;> simp)
theorem Own.drew {w : World} {B : Nat} {v : Value} {l : List UInt8} (h : Own w B v l) : Own w.drew B v l := h
theorem Own.drewN {w : World} {B : Nat} {v : Value} {l : List UInt8} (h : Own w B v l) (n : Nat) : Own (w.drewN n) B v l := h
theorem Own.nil (w : World) (B : Nat) : Own w B (.slice none 0 0) [] := World.ownsRow_nil _ _ _ _
theorem Own.mono {w : World} {B B' : Nat} {v : Value} {l : List UInt8} (h : Own w B v l) (hB : B' ≤ B) : Own w B' v l := by
  refine ⟨h.1, ?_⟩
  rcases h.2 with h2 | ⟨g, cap, cur, hv, hg, r⟩
  · exact .inl h2
  · exact .inr ⟨g, cap, cur, hv, by omega, r⟩
theorem Bs.below {w w' : World} {B : Nat} {v : Value} {l : List UInt8} (h : Bs w B v l) (hb : Below B w w') : Bs w' B v l := by
  obtain ⟨A, c, e, hc, r⟩ := h
  exact ⟨A, c, e, hc, r.below hb⟩
theorem Bs.more {w : World} {B B' : Nat} {v : Value} {l : List UInt8} (h : Bs w B v l) (hB : B ≤ B') : Bs w B' v l := by
  obtain ⟨A, c, e, hc, r⟩ := h
  exact ⟨A, c, e, hc, r.more hB⟩
theorem Bs.nil (w : World) (B : Nat) : Bs w B (.slice none 0 0) [] := ⟨none, 0, rfl, Nat.le_refl _, Reads.none_⟩

theorem wpList_app1 {w : World} {ops : Array Oper} {rest : List Oper} {o : Oper} {a : Act} {Q : Exit → Act → World → Prop} (hgd : o.guard = none) (s x : Operand)
    (ho : o.op = .call { callee := .builtin .append, args := #[s, x], argTypes := #[117, 117] })
    (w0 : World) (v : Value) (l : List UInt8) (hs : a.eval s = v) (n : Int) (hown : Own w w0.heap.size v l) (hb : Below w0.heap.size w0 w)
    (hx : a.eval x = .slice (some ⟨w.heap.size, 0, none⟩) 1 1) (h0 : 0 ≤ n) (h1 : n ≤ 255)
    (hsz : l.length + 1 ≤ 140737488355328)
    (h : ∀ v' w', Own w' w0.heap.size v' (l ++ [bt n]) → Below w0.heap.size w0 w' → wpList Tryz.prog ops Q rest (a.put o.dst v') w') :
    wpList Tryz.prog ops Q (o :: rest) a (w.alloc (.cells #[.int .u8 n] 5)) :=
  wpList_app hgd s x ho w0 v l hs (hown.alloc _) (hb.alloc hb.size _) _ 1 1 [bt n] hx rfl (cell_new1 w n _ h0 h1) hsz h
theorem wpList_app2 {w : World} {ops : Array Oper} {rest : List Oper} {o : Oper} {a : Act} {Q : Exit → Act → World → Prop} (hgd : o.guard = none) (s x : Operand)
    (ho : o.op = .call { callee := .builtin .append, args := #[s, x], argTypes := #[117, 117] })
    (w0 : World) (v : Value) (l : List UInt8) (hs : a.eval s = v) (n m : Int) (hown : Own w w0.heap.size v l) (hb : Below w0.heap.size w0 w)
    (hx : a.eval x = .slice (some ⟨w.heap.size, 0, none⟩) 2 2) (h0 : 0 ≤ n) (h1 : n ≤ 255) (g0 : 0 ≤ m) (g1 : m ≤ 255)
    (hsz : l.length + 2 ≤ 140737488355328)
    (h : ∀ v' w', Own w' w0.heap.size v' (l ++ [bt n, bt m]) → Below w0.heap.size w0 w' → wpList Tryz.prog ops Q rest (a.put o.dst v') w') :
    wpList Tryz.prog ops Q (o :: rest) a (w.alloc (.cells #[.int .u8 n, .int .u8 m] 5)) :=
  wpList_app hgd s x ho w0 v l hs (hown.alloc _) (hb.alloc hb.size _) _ 2 2 [bt n, bt m] hx rfl (cell_new2 w n m _ h0 h1 g0 g1) hsz h

theorem step_app1 {w : World} {ops : Array Oper} {o : Oper} {a : Act} {K : Act → World → Prop} {Q : Exit → Act → World → Prop} {E : Prop} (hgd : o.guard = none) (s x : Operand)
    (ho : o.op = .call { callee := .builtin .append, args := #[s, x], argTypes := #[117, 117] })
    (w0 : World) (v : Value) (l : List UInt8) (hs : a.eval s = v) (n : Int) (hown : Own w w0.heap.size v l) (hb : Below w0.heap.size w0 w)
    (hx : a.eval x = .slice (some ⟨w.heap.size, 0, none⟩) 1 1) (h0 : 0 ≤ n) (h1 : n ≤ 255)
    (hsz : l.length + 1 ≤ 140737488355328)
    (h : ∀ v' w', Own w' w0.heap.size v' (l ++ [bt n]) → Below w0.heap.size w0 w' → K (a.put o.dst v') w') :
    if Region.wanted o (yielded ops a.tmps) = true then Oper.wp Tryz.prog o a (w.alloc (.cells #[.int .u8 n] 5)) K Q else E :=
  step_app hgd s x ho w0 v l hs (hown.alloc _) (hb.alloc hb.size _) _ 1 1 [bt n] hx rfl (cell_new1 w n _ h0 h1) hsz h
theorem step_app2 {w : World} {ops : Array Oper} {o : Oper} {a : Act} {K : Act → World → Prop} {Q : Exit → Act → World → Prop} {E : Prop} (hgd : o.guard = none) (s x : Operand)
    (ho : o.op = .call { callee := .builtin .append, args := #[s, x], argTypes := #[117, 117] })
    (w0 : World) (v : Value) (l : List UInt8) (hs : a.eval s = v) (n m : Int) (hown : Own w w0.heap.size v l) (hb : Below w0.heap.size w0 w)
    (hx : a.eval x = .slice (some ⟨w.heap.size, 0, none⟩) 2 2) (h0 : 0 ≤ n) (h1 : n ≤ 255) (g0 : 0 ≤ m) (g1 : m ≤ 255)
    (hsz : l.length + 2 ≤ 140737488355328)
    (h : ∀ v' w', Own w' w0.heap.size v' (l ++ [bt n, bt m]) → Below w0.heap.size w0 w' → K (a.put o.dst v') w') :
    if Region.wanted o (yielded ops a.tmps) = true then Oper.wp Tryz.prog o a (w.alloc (.cells #[.int .u8 n, .int .u8 m] 5)) K Q else E :=
  step_app hgd s x ho w0 v l hs (hown.alloc _) (hb.alloc hb.size _) _ 2 2 [bt n, bt m] hx rfl (cell_new2 w n m _ h0 h1 g0 g1) hsz h

/-- make([]byte, 0, n). -/
theorem wpList_make0 {w : World} {ops : Array Oper} {rest : List Oper} {o : Oper} {a : Act} {Q : Exit → Act → World → Prop}
    (hg : o.guard = none) (l c : Operand) (hop : o.op = Op.makeSlice 117 l c) (kl kc : IntKind) (C : Int) (n : Nat) (hl : a.eval l = .int kl 0) (hc : a.eval c = .int kc C) (hC : C = (n : Int))
    (hn : n ≤ 281474976710656) (w0 : World) (hb : Below w0.heap.size w0 w)
    (h : ∀ v w', Own w' w0.heap.size v [] → Below w0.heap.size w0 w' → wpList Tryz.prog ops Q rest (a.put o.dst v) w') : wpList Tryz.prog ops Q (o :: rest) a w := by
  obtain ⟨i0, hi, hz0, hz1, hz2⟩ := info_parts info_u8
  refine wpList_make_own w hg l c _ hop w0.heap.size 5 i0 _ 1 und_bytes hi hz0 hz1 kl kc C n hl hc hC (by rw [hz2]; omega) (by unfold maxLen; omega) hb.size ?_
  intro w' h1 h2
  exact h _ w' h1 (hb.grown h2 hb.size (by simp))

/-- []byte of a constant. -/
@[go_sem] theorem run_conv_const (w : World) (C : Array Value) (n c : Nat) :
    (convert 117 117 (.slice (some ⟨w.heap.size, 0, none⟩) n c)).run Tryz.prog (w.alloc (.cells C 5)) = .ok (.slice (some ⟨w.heap.size, 0, none⟩) n c) (w.alloc (.cells C 5 (C.size, C.size + 1))) :=
  Lib.run_convert_bytes_const w _ _ C n c und_bytes und_u8
theorem bs_new (w : World) (l : List UInt8) (C : Array Value) (fr : Nat × Nat) (n : Nat) (hC : C = (b8s l).toArray) (hn : n = l.length) :
    Bs (w.alloc (.cells C 5 fr)) (w.alloc (.cells C 5 fr)).heap.size (.slice (some ⟨w.heap.size, 0, none⟩) n n) l := by
  subst hn hC
  refine ⟨_, _, rfl, Nat.le_refl _, by simp, fun _ => ⟨_, rfl, by simp, fun j u hu => ?_⟩⟩
  rw [add_zero_off, cell_of_row (w.alloc _) w.heap.size j _ _ _ (heap_alloc_new w _), ← hu]
  simp

/-- string([]byte{x}). -/
theorem conv_one (w : World) (n : Int) (h0 : 0 ≤ n) (h1 : n ≤ 255) :
    (convert 117 9 (.slice (some ⟨w.heap.size, 0, none⟩) 1 1)).run Tryz.prog (w.alloc (.cells #[.int .u8 n] 5)) = .ok (Sv [bt n]) (w.alloc (.cells #[.int .u8 n] 5)) :=
  run_to_string (bs_new w [bt n] #[.int .u8 n] (0, 0) 1 (by simp [b8s, b8_bt n h0 h1]) rfl)

/-- make([]byte, n, C). -/
theorem wpList_makeLen {w : World} {ops : Array Oper} {rest : List Oper} {o : Oper} {a : Act} {Q : Exit → Act → World → Prop}
    (hg : o.guard = none) (l c : Operand) (hop : o.op = Op.makeSlice 117 l c) (kl kc : IntKind) (L C : Int) (n m : Nat) (hl : a.eval l = .int kl L) (hc : a.eval c = .int kc C) (hL : L = (n : Int)) (hC : C = (m : Int))
    (hnm : n ≤ m) (hm : m ≤ 281474976710656) (w0 : World) (hb : Below w0.heap.size w0 w)
    (h : ∀ g w', w0.heap.size ≤ g → Own w' w0.heap.size (.slice (some ⟨g, 0, none⟩) n m) (List.replicate n 0) → Below w0.heap.size w0 w' → wpList Tryz.prog ops Q rest (a.put o.dst (.slice (some ⟨g, 0, none⟩) n m)) w') : wpList Tryz.prog ops Q (o :: rest) a w := by
  obtain ⟨i0, hi, hz0, hz1, hz2⟩ := info_parts info_u8
  refine wpList_plain hg fun K hK => ?_
  have hr := run_make (P := Tryz.prog) w _ _ i0 _ und_bytes hi hz0 kl kc L C (by omega) (by omega) (by rw [hz2]; omega) (by omega)
  subst hL hC
  simp only [Int.toNat_natCast, hz1, Nat.mul_one] at hr
  unfold Oper.wp
  simp [execOp, hop, hl, hc, hr, Result.andThen]
  refine hK _ _ (h _ _ hb.size ⟨by simp, .inr ⟨w.heap.size, m, madeCells #[.int .u8 0] m, by simp, hb.size, heap_alloc_new w _, by simpa using hnm, by unfold maxLen; omega, by rw [size_madeCells]; omega, ?_⟩⟩ (hb.alloc hb.size _))
  rw [toList_madeCells_one, Nat.mul_one, List.length_replicate, List.take_replicate, Nat.min_eq_left hnm]
  simp [b8s, b8]

/-- copy(out, b), out of the call's own and as long as b. -/
theorem wpList_copyAll {w : World} {ops : Array Oper} {rest : List Oper} {o : Oper} {a : Act} {Q : Exit → Act → World → Prop} (hgd : o.guard = none) (d s : Operand)
    (ho : o.op = .call { callee := .builtin .copy, args := #[d, s], argTypes := #[117, 117] }) (w0 : World) (g n cap : Nat) (vb : Value) (B' : Nat) (l0 l : List UInt8)
    (hd : a.eval d = .slice (some ⟨g, 0, none⟩) n cap) (hs : a.eval s = vb) (hown : Own w w0.heap.size (.slice (some ⟨g, 0, none⟩) n cap) l0) (hn : l.length = n) (hvb : Bs w B' vb l)
    (hb : Below w0.heap.size w0 w)
    (h : ∀ w', Own w' w0.heap.size (.slice (some ⟨g, 0, none⟩) n cap) l → Below w0.heap.size w0 w' → wpList Tryz.prog ops Q rest (a.put o.dst (goInt l.length)) w') :
    wpList Tryz.prog ops Q (o :: rest) a w := by
  obtain ⟨i0, hi, hz0, hz1, hz2⟩ := info_parts info_u8
  obtain ⟨A, c, rfl, hlc, hr⟩ := hvb
  rcases hown.2 with ⟨h1, _⟩ | ⟨g', cap', cur, hv, hbg, hg, hnc, hcm, hcs, _⟩
  · cases h1
  · injection hv with hA hl0 hcap
    injection hA with hA
    injection hA with hg' _ _
    subst hcap
    subst hg'
    refine wpList_copy_splice hgd d s _ _ ho 5 und_bytes (by rw [hi]; simp [hz1]) (some ⟨g, 0, none⟩) A n cap l.length c hd hs g 0 cur.toList 5 (by simpa using hg) (b8s l) (by simp [hn]) ?_ ?_ (b8s_one l) w0.heap.size w0 hb hbg ?_
    · intro hp
      obtain ⟨ad, e, _, hcell⟩ := hr.2 (by simpa using hp)
      exact ⟨rfl, ad, e, hcell⟩
    · simp; omega
    · intro w' H hb'
      rw [b8s_length]
      refine h w' ⟨by simp, .inr ⟨g, cap, _, by rw [hn], hbg, H.out, by omega, hcm, ?_, ?_⟩⟩ hb'
      · simp [splice]; omega
      · simp [splice]
end Go.Proofs.YtgfdmdikiickpaaGreatDoor

/-! PHexa -/
namespace Go.Proofs.YtgfdmdikiickpaaGreatDoor

def nibV (c : Int) : Int := if 48 ≤ c ∧ c ≤ 57 then c - 48 else if 97 ≤ c ∧ c ≤ 102 then c - 87 else 0
def nibOk (c : Int) : Bool := decide ((48 ≤ c ∧ c ≤ 57) ∨ (97 ≤ c ∧ c ≤ 102))
theorem nibV_bd (c : Int) : 0 ≤ nibV c ∧ nibV c ≤ 15 := by unfold nibV; (repeat' split) <;> omega
def bi (b : UInt8) : Int := (b.toNat : Int)
def hexDec : List UInt8 → Option (List UInt8)
  | [] => some []
  | [_] => none
  | a :: b :: r => if nibOk (bi a) && nibOk (bi b) then (hexDec r).map (bt (nibV (bi a) * 16 + nibV (bi b)) :: ·) else none
/-- The pairs of bytes, whatever they are. -/
def hexRaw : List UInt8 → List UInt8
  | a :: b :: r => bt (nibV (bi a) * 16 + nibV (bi b)) :: hexRaw r
  | _ => []
def digI (n : Int) : Int := if n < 10 then n + 48 else n + 87
def hexEnc : List UInt8 → List UInt8
  | [] => []
  | b :: r => bt (digI (bi b / 16)) :: bt (digI (bi b % 16)) :: hexEnc r

theorem hexEnc_length (l : List UInt8) : (hexEnc l).length = 2 * l.length := by
  induction l with
  | nil => rfl
  | cons b r ih => simp [hexEnc, ih]; omega
theorem hexEnc_append (a b : List UInt8) : hexEnc (a ++ b) = hexEnc a ++ hexEnc b := by
  induction a with
  | nil => rfl
  | cons x r ih => simp [hexEnc, ih]
theorem bi_lt (b : UInt8) : 0 ≤ bi b ∧ bi b ≤ 255 := by unfold bi; have := b.toNat_lt; omega
theorem bi_bt (n : Int) (h0 : 0 ≤ n) (h1 : n ≤ 255) : bi (bt n) = n := by
  unfold bi bt
  have e : n % 256 = n := by omega
  rw [e, UInt8.toNat_ofNat']
  omega
theorem bt_bi (b : UInt8) : bt (bi b) = b := by
  have := bi_bt (bi b) (bi_lt b).1 (bi_lt b).2
  unfold bi at this ⊢
  exact UInt8.toNat_inj.1 (by omega)
theorem bi_inj {a b : UInt8} (h : bi a = bi b) : a = b := by rw [← bt_bi a, ← bt_bi b, h]
theorem byteAt_bi (l : List UInt8) (k : Nat) : byteAt l k = bi (l.getD k 0) := rfl
theorem nib_dig (n : Int) (h0 : 0 ≤ n) (h1 : n ≤ 15) : nibV (digI n) = n ∧ nibOk (digI n) = true ∧ 0 ≤ digI n ∧ digI n ≤ 255 := by
  unfold nibV nibOk digI
  (repeat' split) <;> simp <;> omega
theorem dig_nib (c : Int) (h : nibOk c = true) : digI (nibV c) = c := by
  unfold nibV digI
  simp [nibOk] at h
  (repeat' split) <;> omega
theorem hexDec_enc (l : List UInt8) : hexDec (hexEnc l) = some l := by
  induction l with
  | nil => rfl
  | cons b r ih =>
    have hb := bi_lt b
    obtain ⟨a1, a2, a3, a4⟩ := nib_dig (bi b / 16) (by omega) (by omega)
    obtain ⟨b1, b2, b3, b4⟩ := nib_dig (bi b % 16) (by omega) (by omega)
    have e : bi b / 16 * 16 + bi b % 16 = bi b := by omega
    simp [hexEnc, hexDec, bi_bt _ a3 a4, bi_bt _ b3 b4, a1, a2, b1, b2, ih, e, bt_bi]
theorem hexEnc_dec : ∀ (l t : List UInt8), hexDec l = some t → hexEnc t = l
  | [], t, h => by simp [hexDec] at h; subst h; rfl
  | [_], t, h => by simp [hexDec] at h
  | a :: b :: r, t, h => by
    unfold hexDec at h
    split at h
    · rename_i hn
      simp only [Bool.and_eq_true] at hn
      cases hr : hexDec r with
      | none => rw [hr] at h; simp at h
      | some t' =>
        rw [hr] at h
        simp at h
        subst h
        have ih := hexEnc_dec r t' hr
        have na := nibV_bd (bi a)
        have nb := nibV_bd (bi b)
        have e := bi_bt (nibV (bi a) * 16 + nibV (bi b)) (by omega) (by omega)
        have e1 : (nibV (bi a) * 16 + nibV (bi b)) / 16 = nibV (bi a) := by omega
        have e2 : (nibV (bi a) * 16 + nibV (bi b)) % 16 = nibV (bi b) := by omega
        simp only [hexEnc, e, e1, e2, dig_nib _ hn.1, dig_nib _ hn.2, bt_bi, ih]
    · simp at h
theorem hexDec_raw : ∀ (l t : List UInt8), hexDec l = some t → hexRaw l = t
  | [], t, h => by simp [hexDec] at h; subst h; rfl
  | [_], t, h => by simp [hexDec] at h
  | a :: b :: r, t, h => by
    unfold hexDec at h
    split at h
    · cases hr : hexDec r with
      | none => rw [hr] at h; simp at h
      | some t' =>
        rw [hr] at h
        simp at h
        subst h
        simp [hexRaw, hexDec_raw r t' hr]
    · simp at h
theorem hexRaw_dec (l : List UInt8) : hexEnc (hexRaw l) = l ↔ hexDec l = some (hexRaw l) :=
  ⟨fun h => by rw [← h, hexDec_enc, h], fun h => hexEnc_dec _ _ h⟩
theorem hexDec_none (l : List UInt8) : hexEnc (hexRaw l) ≠ l ↔ hexDec l = none := by
  rw [Ne, hexRaw_dec]
  constructor
  · intro h
    cases hd : hexDec l with
    | none => rfl
    | some t => exact absurd (by rw [hd, hexDec_raw _ _ hd]) h
  · intro h
    rw [h]; simp
theorem hexDec_length : ∀ (l t : List UInt8), hexDec l = some t → l.length = 2 * t.length := by
  intro l t h
  rw [← hexEnc_length, hexEnc_dec l t h]
theorem hexDec_odd (l : List UInt8) (h : l.length % 2 ≠ 0) : hexDec l = none := by
  cases hd : hexDec l with
  | none => rfl
  | some t => have := hexDec_length l t hd; omega
theorem drop_two (l : List UInt8) (k : Nat) (h : k + 1 < l.length) : l.drop k = l[k] :: l[k + 1] :: l.drop (k + 2) := by
  rw [List.drop_eq_getElem_cons (by omega), List.drop_eq_getElem_cons (i := k + 1) h]
theorem byteAt_getElem (l : List UInt8) (k : Nat) (h : k < l.length) : byteAt l k = bi l[k] := by
  unfold byteAt bi; simp [List.getD, h]
theorem hexDec_step (l acc : List UInt8) (k : Nat) (h : k + 1 < l.length) (h1 : nibOk (byteAt l k) = true) (h2 : nibOk (byteAt l (k + 1)) = true) :
    (hexDec (l.drop k)).map (acc ++ ·) = (hexDec (l.drop (k + 2))).map ((acc ++ [bt (nibV (byteAt l k) * 16 + nibV (byteAt l (k + 1)))]) ++ ·) := by
  rw [drop_two l k h]
  rw [byteAt_getElem l k (by omega)] at *
  rw [byteAt_getElem l (k + 1) h] at *
  simp [hexDec, h1, h2, Option.map_map, Function.comp_def]
theorem hexDec_stop (l acc : List UInt8) (k : Nat) (h : k + 1 < l.length) (h1 : (nibOk (byteAt l k) && nibOk (byteAt l (k + 1))) = false) :
    (hexDec (l.drop k)).map (acc ++ ·) = none := by
  rw [drop_two l k h]
  rw [byteAt_getElem l k (by omega), byteAt_getElem l (k + 1) h] at h1
  simp only [hexDec, h1]
  rfl
theorem hexRaw_step (l acc : List UInt8) (k : Nat) (h : k + 1 < l.length) :
    acc ++ hexRaw (l.drop k) = (acc ++ [bt (nibV (byteAt l k) * 16 + nibV (byteAt l (k + 1)))]) ++ hexRaw (l.drop (k + 2)) := by
  rw [drop_two l k h, byteAt_getElem l k (by omega), byteAt_getElem l (k + 1) h]
  simp [hexRaw]
theorem hexRaw_end (l : List UInt8) (k : Nat) (h : ¬ k + 1 < l.length) : hexRaw (l.drop k) = [] := by
  have : (l.drop k).length ≤ 1 := by simp; omega
  match hd : l.drop k, this with
  | [], _ => rfl
  | [_], _ => rfl
theorem hexEnc_snoc (l : List UInt8) (k : Nat) (h : k < l.length) : hexEnc (l.take (k + 1)) = hexEnc (l.take k) ++ [bt (digI (byteAt l k / 16)), bt (digI (byteAt l k % 16))] := by
  rw [List.take_succ_eq_append_getElem h, hexEnc_append, byteAt_getElem l k h]
  rfl
theorem dig_at (n : Int) (h0 : 0 ≤ n) (h1 : n < 16) : byteAt [48, 49, 50, 51, 52, 53, 54, 55, 56, 57, 97, 98, 99, 100, 101, 102] n.toNat = digI n := by
  obtain ⟨m, rfl⟩ := Int.eq_ofNat_of_zero_le h0
  have : ∀ k : Fin 16, byteAt [48, 49, 50, 51, 52, 53, 54, 55, 56, 57, 97, 98, 99, 100, 101, 102] ((k.val : Int)).toNat = digI (k.val : Int) := by decide
  exact this ⟨m, by omega⟩
theorem digI_bd (n : Int) (h0 : 0 ≤ n) (h1 : n < 16) : 0 ≤ digI n ∧ digI n ≤ 255 := by unfold digI; split <;> omega
end Go.Proofs.YtgfdmdikiickpaaGreatDoor

/-! PState -/
namespace Go.Proofs.YtgfdmdikiickpaaGreatDoor

def lowK (b : Int) : Bool := decide (97 ≤ b) && decide (b ≤ 122)
def numK (b : Int) : Bool := decide (48 ≤ b) && decide (b ≤ 57)
def inKeyB (b : Int) : Bool := lowK b || (numK b || (b == 95 || (b == 45 || (b == 42 || b == 47))))
def inValB (b : Int) : Bool := decide (32 ≤ b) && (decide (b ≤ 126) && (!(b == 44) && !(b == 61)))
def allP (f : Int → Bool) (s : List UInt8) : Bool := s.all fun b => f (bi b)
def allB (f : Int → Bool) (s : List UInt8) (n : Int) : Bool := allP f s && (decide (1 ≤ s.length) && decide ((s.length : Int) ≤ n))
theorem allP_drop (f : Int → Bool) (l : List UInt8) (k : Nat) (h : k < l.length) : allP f (l.drop k) = (f (byteAt l k) && allP f (l.drop (k + 1))) := by
  unfold allP
  rw [List.drop_eq_getElem_cons h, List.all_cons, byteAt_getElem l k h]
def findN (c : UInt8) : List UInt8 → Nat
  | [] => 0
  | b :: l => if b = c then 0 else findN c l + 1
theorem findN_le (c : UInt8) : ∀ l, findN c l ≤ l.length
  | [] => Nat.le_refl _
  | b :: l => by
    have := findN_le c l
    unfold findN
    split
    · simp
    · simp only [List.length_cons]; omega
theorem findN_drop (c : UInt8) (l : List UInt8) (k : Nat) (h : k < l.length) : findN c (l.drop k) = if byteAt l k = bi c then 0 else findN c (l.drop (k + 1)) + 1 := by
  rw [List.drop_eq_getElem_cons h, findN, byteAt_getElem l k h]
  by_cases e : l[k] = c
  · rw [if_pos e, if_pos (by rw [e])]
  · rw [if_neg e, if_neg (fun q => e (bi_inj q))]
theorem index_find (c : UInt8) : ∀ l : List UInt8, Lib.index l [c] = if findN c l = l.length then -1 else (findN c l : Int)
  | [] => rfl
  | b :: l => by
    have ih := index_find c l
    have hle := findN_le c l
    rw [Lib.index, findN]
    by_cases h : b = c
    · subst h
      rw [if_pos (by simp [List.isPrefixOf]), if_pos rfl, if_neg (by simp)]
      rfl
    · rw [if_neg (by simp [List.isPrefixOf, Ne.symm h]), if_neg h, ih]
      by_cases e : findN c l = l.length
      · rw [if_pos e, if_pos (show findN c l + 1 = (b :: l).length by simp [e])]
        rfl
      · rw [if_neg e]
        rw [if_neg (by rw [beq_iff_eq]; omega), if_neg (by simp only [List.length_cons]; omega)]
        omega
theorem cut_find (c : UInt8) (l : List UInt8) : Lib.cut l [c] = if findN c l = l.length then (l, [], false) else (l.take (findN c l), l.drop (findN c l + 1), true) := by
  unfold Lib.cut
  rw [index_find]
  by_cases e : findN c l = l.length
  · rw [if_pos e, if_pos e, if_neg (by omega)]
  · rw [if_neg e, if_neg e, if_pos (by omega)]
    simp
theorem findN_none {c : UInt8} : ∀ {l : List UInt8}, c ∉ l → findN c l = l.length
  | [], _ => rfl
  | b :: l, h => by
    rw [findN, if_neg (fun e => h (by simp [e])), findN_none (fun q => h (List.mem_cons_of_mem _ q))]
    rfl
theorem findN_app {c : UInt8} : ∀ {a : List UInt8}, c ∉ a → ∀ b, findN c (a ++ c :: b) = a.length
  | [], _, b => by simp [findN]
  | x :: a, h, b => by
    rw [List.cons_append, findN, if_neg (fun e => h (by simp [e])), findN_app (fun q => h (List.mem_cons_of_mem _ q))]
    rfl
def keyB (s : List UInt8) : Bool :=
  if findN 64 s = s.length then allB inKeyB s 256 && lowK (byteAt s 0)
  else (allB inKeyB (s.take (findN 64 s)) 241 && (lowK (byteAt (s.take (findN 64 s)) 0) || numK (byteAt (s.take (findN 64 s)) 0))) && (allB inKeyB (s.drop (findN 64 s + 1)) 14 && lowK (byteAt (s.drop (findN 64 s + 1)) 0))
def valB (s : List UInt8) : Bool := allB inValB s 256 && !(byteAt s (s.length - 1) == 32)
def blanks : List UInt8 := [32, 9]
def blankB (b : UInt8) : Bool := blanks.contains b
def ldrop (s : List UInt8) : List UInt8 := s.dropWhile blankB
def rdrop (s : List UInt8) : List UInt8 := (s.reverse.dropWhile blankB).reverse
def trimB (s : List UInt8) : List UInt8 := rdrop (ldrop s)
theorem rdrop_cons (x : UInt8) (r : List UInt8) : rdrop (x :: r) = if rdrop r = [] then (if blankB x = true then [] else [x]) else x :: rdrop r := by
  unfold rdrop
  rw [List.reverse_cons, List.dropWhile_append]
  by_cases h : r.reverse.dropWhile blankB = []
  · rw [h]
    simp only [List.isEmpty_nil, if_true, List.reverse_nil]
    by_cases q : blankB x = true <;> simp [List.dropWhile, q]
  · have : (List.dropWhile blankB r.reverse).isEmpty = false := by simpa using h
    rw [this]
    simp [h]
theorem rdrop_len : ∀ s : List UInt8, (rdrop s).length ≤ s.length
  | [] => Nat.le_refl _
  | x :: r => by
    have := rdrop_len r
    rw [rdrop_cons]
    split
    · split <;> simp
    · simp only [List.length_cons]; omega
theorem ldrop_len (s : List UInt8) : (ldrop s).length ≤ s.length := (List.dropWhile_suffix _).length_le
theorem trimB_len (s : List UInt8) : (trimB s).length ≤ s.length := Nat.le_trans (rdrop_len _) (ldrop_len _)
theorem rdrop_all : ∀ {s : List UInt8}, ldrop s = [] → rdrop s = []
  | [], _ => rfl
  | x :: r, h => by
    unfold ldrop at h
    rw [List.dropWhile_cons] at h
    split at h
    · rename_i hx
      rw [rdrop_cons, rdrop_all (s := r) h, if_pos rfl, if_pos hx]
    · cases h
theorem ldrop_all : ∀ {s : List UInt8}, rdrop s = [] → ldrop s = []
  | [], _ => rfl
  | x :: r, h => by
    rw [rdrop_cons] at h
    split at h
    · rename_i hr
      split at h
      · rename_i hx
        unfold ldrop
        rw [List.dropWhile_cons, if_pos hx]
        exact ldrop_all hr
      · cases h
    · cases h
theorem trim_comm : ∀ s : List UInt8, ldrop (rdrop s) = rdrop (ldrop s)
  | [] => rfl
  | x :: r => by
    have ih := trim_comm r
    by_cases hx : blankB x = true
    · have e1 : ldrop (x :: r) = ldrop r := by unfold ldrop; rw [List.dropWhile_cons, if_pos hx]
      rw [e1, rdrop_cons]
      split
      · rename_i hr
        first
        | (rw [if_pos hx, ldrop_all hr]; rfl)
        | (rw [ldrop_all hr]; rfl)
      · show ldrop (x :: rdrop r) = _
        have e2 : ldrop (x :: rdrop r) = ldrop (rdrop r) := by unfold ldrop; rw [List.dropWhile_cons, if_pos hx]
        rw [e2, ih]
    · have e1 : ldrop (x :: r) = x :: r := by unfold ldrop; rw [List.dropWhile_cons, if_neg hx]
      have keep : ∀ t, ldrop (x :: t) = x :: t := fun t => by unfold ldrop; rw [List.dropWhile_cons, if_neg hx]
      rw [e1, rdrop_cons]
      split
      · first | (rw [if_neg hx]; exact keep []) | exact keep []
      · exact keep _
theorem trimS_eq (s : List UInt8) : Lib.trimS s [32, 9] = trimB s := trim_comm s
theorem ldrop_drop (l : List UInt8) (k : Nat) (h : k < l.length) : ldrop (l.drop k) = if blankB (l[k]) = true then ldrop (l.drop (k + 1)) else l.drop k := by
  rw [List.drop_eq_getElem_cons h]
  unfold ldrop
  rw [List.dropWhile_cons]
theorem rdrop_take (l : List UInt8) (k : Nat) (h : k < l.length) : rdrop (l.take (k + 1)) = if blankB (l[k]) = true then rdrop (l.take k) else l.take (k + 1) := by
  unfold rdrop
  have e : (l.take (k + 1)).reverse = l[k] :: (l.take k).reverse := by
    rw [List.take_succ_eq_append_getElem h, List.reverse_append]; rfl
  rw [e, List.dropWhile_cons]
  split
  · rfl
  · rw [← e, List.reverse_reverse]
theorem blankB_eq (b : UInt8) : blankB b = (bi b == 32 || bi b == 9) := by
  exact u8_all (p := fun b => blankB b = (bi b == 32 || bi b == 9)) (by decide +kernel) b
/-! Members. -/
abbrev Mb := List UInt8 × List UInt8
def hasM (L : List Mb) (key : List UInt8) : Bool := L.any fun m => m.1 == key
def getM (L : List Mb) (key : List UInt8) : List UInt8 := ((L.find? fun m => m.1 == key).map (·.2)).getD []
def stepS (acc : List Mb) (p : List UInt8) : List Mb × Int :=
  if trimB p = [] then (acc, 0)
  else if findN 61 (trimB p) = (trimB p).length ∨ keyB ((trimB p).take (findN 61 (trimB p))) = false ∨ valB ((trimB p).drop (findN 61 (trimB p) + 1)) = false then ([], 3)
  else if hasM acc ((trimB p).take (findN 61 (trimB p))) = true then ([], 8)
  else if acc.length = 32 then ([], 34)
  else (acc ++ [((trimB p).take (findN 61 (trimB p)), (trimB p).drop (findN 61 (trimB p) + 1))], 0)
def readP : List (List UInt8) → List Mb → List Mb × Int
  | [], acc => (acc, 0)
  | p :: ps, acc => if (stepS acc p).2 = 0 then readP ps (stepS acc p).1 else stepS acc p
def readS (s : List UInt8) : List Mb × Int := readP (cutB 44 s) []
def memT (m : Mb) : List UInt8 := m.1 ++ 61 :: m.2
def textS (L : List Mb) : List UInt8 := Lib.join (L.map memT) [44]
def putS (L : List Mb) (key value : List UInt8) : List Mb × Int :=
  if keyB key = true ∧ valB value = true then ((key, value) :: (L.filter fun m => !(m.1 == key)).take 31, 0) else ([], 3)
structure GoodM (L : List Mb) : Prop where
  all : ∀ m ∈ L, keyB m.1 = true ∧ valB m.2 = true
  len : L.length ≤ 32
  nod : (L.map (·.1)).Nodup
theorem GoodM.nil : GoodM [] := ⟨by simp, by simp, by simp⟩
theorem hasM_iff (L : List Mb) (key : List UInt8) : hasM L key = true ↔ key ∈ L.map (·.1) := by
  unfold hasM
  rw [List.any_eq_true]
  constructor
  · rintro ⟨m, hm, e⟩
    rw [beq_iff_eq] at e
    exact List.mem_map.2 ⟨m, hm, e⟩
  · intro h
    obtain ⟨m, hm, e⟩ := List.mem_map.1 h
    exact ⟨m, hm, by rw [beq_iff_eq]; exact e⟩
theorem stepS_good {acc : List Mb} (h : GoodM acc) (p : List UInt8) (h0 : (stepS acc p).2 = 0) : GoodM (stepS acc p).1 := by
  unfold stepS at h0 ⊢
  split
  · exact h
  · rename_i c1
    rw [if_neg c1] at h0
    split
    · rename_i c2; rw [if_pos c2] at h0; exact absurd h0 (by decide)
    · rename_i c2
      rw [if_neg c2] at h0
      split
      · rename_i c3; rw [if_pos c3] at h0; exact absurd h0 (by decide)
      · rename_i c3
        rw [if_neg c3] at h0
        split
        · rename_i c4; rw [if_pos c4] at h0; exact absurd h0 (by decide)
        · rename_i c4
          have hl := h.len
          refine ⟨fun m hm => ?_, by simp only [List.length_append, List.length_cons, List.length_nil]; omega, ?_⟩
          · rcases List.mem_append.1 hm with hm | hm
            · exact h.all m hm
            · obtain rfl := List.mem_singleton.1 hm
              constructor
              · exact Classical.byContradiction fun q => c2 (.inr (.inl (by simpa using q)))
              · exact Classical.byContradiction fun q => c2 (.inr (.inr (by simpa using q)))
          · rw [List.map_append, List.nodup_append]
            refine ⟨h.nod, by simp, ?_⟩
            intro a ha b hb e
            subst e
            simp only [List.map_cons, List.map_nil, List.mem_singleton] at hb
            subst hb
            exact c3 ((hasM_iff _ _).2 ha)
theorem readP_good : ∀ (ps : List (List UInt8)) {acc : List Mb}, GoodM acc → (readP ps acc).2 = 0 → GoodM (readP ps acc).1
  | [], acc, h, _ => h
  | p :: ps, acc, h, h0 => by
    unfold readP at h0 ⊢
    by_cases c : (stepS acc p).2 = 0
    · rw [if_pos c] at h0 ⊢
      exact readP_good ps (stepS_good h p c) h0
    · rw [if_neg c] at h0
      exact absurd h0 c
theorem readS_good {s : List UInt8} (h : (readS s).2 = 0) : GoodM (readS s).1 := readP_good _ GoodM.nil h
theorem stepS_bad {acc : List Mb} {p : List UInt8} (h : (stepS acc p).2 ≠ 0) : (stepS acc p).1 = [] := by
  unfold stepS at h ⊢
  split
  · rename_i c; rw [if_pos c] at h; exact absurd rfl h
  · rename_i c; rw [if_neg c] at h
    split
    · rfl
    · rename_i c; rw [if_neg c] at h
      split
      · rfl
      · rename_i c; rw [if_neg c] at h
        split
        · rfl
        · rename_i c; rw [if_neg c] at h; exact absurd rfl h
theorem readP_bad : ∀ (ps : List (List UInt8)) {acc : List Mb}, (readP ps acc).2 ≠ 0 → (readP ps acc).1 = []
  | [], acc, h => absurd rfl h
  | p :: ps, acc, h => by
    unfold readP at h ⊢
    by_cases c : (stepS acc p).2 = 0
    · rw [if_pos c] at h ⊢; exact readP_bad ps h
    · rw [if_neg c] at h ⊢; exact stepS_bad c
theorem readS_bad {s : List UInt8} (h : (readS s).2 ≠ 0) : (readS s).1 = [] := readP_bad _ h
/-! What is good comes back of its text. -/
theorem allP_mem {f : Int → Bool} {s : List UInt8} (h : allP f s = true) {b : UInt8} (hb : b ∈ s) : f (bi b) = true := by
  unfold allP at h
  exact List.all_eq_true.1 h b hb
theorem allB_of {f : Int → Bool} {s : List UInt8} {n : Int} (h : allB f s n = true) : allP f s = true ∧ 1 ≤ s.length ∧ (s.length : Int) ≤ n := by
  unfold allB at h
  simpa [Bool.and_eq_true] using h
theorem keyB_mem {s : List UInt8} (h : keyB s = true) {b : UInt8} (hb : b ∈ s) : inKeyB (bi b) = true ∨ b = 64 := by
  unfold keyB at h
  split at h
  · rw [Bool.and_eq_true] at h
    exact .inl (allP_mem (allB_of h.1).1 hb)
  · rename_i c
    simp only [Bool.and_eq_true] at h
    have e : s = s.take (findN 64 s) ++ s.drop (findN 64 s) := (List.take_append_drop _ _).symm
    rw [e, List.mem_append] at hb
    rcases hb with hb | hb
    · exact .inl (allP_mem (allB_of h.1.1).1 hb)
    · have hlt : findN 64 s < s.length := by have := findN_le 64 s; omega
      rw [List.drop_eq_getElem_cons hlt, List.mem_cons] at hb
      rcases hb with hb | hb
      · right
        have key : ∀ (l : List UInt8) (h : findN 64 l < l.length), l[findN 64 l] = 64 := by
          intro l
          induction l with
          | nil => intro h; exact absurd h (by simp [findN])
          | cons x r ih =>
            intro h
            by_cases q : x = 64
            · have : findN 64 (x :: r) = 0 := by rw [findN, if_pos q]
              simp only [this, List.getElem_cons_zero]; exact q
            · have e : findN 64 (x :: r) = findN 64 r + 1 := by rw [findN, if_neg q]
              have h' : findN 64 r < r.length := by rw [e] at h; simpa using h
              simp only [e, List.getElem_cons_succ]
              exact ih h'
        rw [hb]; exact key s hlt
      · exact .inl (allP_mem (allB_of h.2.1).1 hb)
theorem keyB_first {s : List UInt8} (h : keyB s = true) : ∃ b r, s = b :: r ∧ (lowK (bi b) = true ∨ numK (bi b) = true) := by
  unfold keyB at h
  split at h
  · rw [Bool.and_eq_true] at h
    obtain ⟨_, h1, _⟩ := allB_of h.1
    cases s with
    | nil => exact absurd h1 (by simp)
    | cons b r => exact ⟨b, r, rfl, .inl h.2⟩
  · simp only [Bool.and_eq_true, Bool.or_eq_true] at h
    obtain ⟨_, h1, _⟩ := allB_of h.1.1
    have h2 := h.1.2
    cases s with
    | nil => exact absurd h1 (by simp)
    | cons b r =>
      cases hk : findN 64 (b :: r) with
      | zero => rw [hk] at h1; exact absurd h1 (by simp)
      | succ k =>
        rw [hk] at h2
        exact ⟨b, r, rfl, h2⟩
theorem noKey (b : UInt8) (hb : b = 44 ∨ b = 61) : inKeyB (bi b) = false ∧ b ≠ 64 := by rcases hb with rfl | rfl <;> decide
theorem key_none {s : List UInt8} (h : keyB s = true) (c : UInt8) (hc : c = 44 ∨ c = 61) : c ∉ s := by
  intro hm
  rcases keyB_mem h hm with q | q
  · rw [(noKey c hc).1] at q; cases q
  · exact (noKey c hc).2 q
theorem val_none {s : List UInt8} (h : valB s = true) : (44 : UInt8) ∉ s := by
  intro hm
  unfold valB at h
  rw [Bool.and_eq_true] at h
  have := allP_mem (allB_of h.1).1 hm
  revert this; decide
theorem memT_nocomma {m : Mb} (h1 : keyB m.1 = true) (h2 : valB m.2 = true) : (44 : UInt8) ∉ memT m := by
  unfold memT
  rw [List.mem_append, List.mem_cons]
  rintro (h | h | h)
  · exact key_none h1 44 (.inl rfl) h
  · exact absurd h (by decide)
  · exact val_none h2 h
theorem val_last {s : List UInt8} (h : valB s = true) : ∃ r b, s = r ++ [b] ∧ blankB b = false := by
  unfold valB at h
  rw [Bool.and_eq_true] at h
  obtain ⟨ha, h1, _⟩ := allB_of h.1
  have hs : s ≠ [] := by rintro rfl; exact absurd h1 (by simp)
  refine ⟨s.dropLast, s.getLast hs, (List.dropLast_concat_getLast hs).symm, ?_⟩
  have hin := allP_mem ha (List.getLast_mem hs)
  have hb : byteAt s (s.length - 1) = bi (s.getLast hs) := by
    rw [byteAt_getElem s _ (by omega), List.getLast_eq_getElem]
  have h2 := h.2
  rw [hb] at h2
  rw [blankB_eq]
  simp only [Bool.not_eq_true', beq_eq_false_iff_ne] at h2
  simp only [inValB, Bool.and_eq_true, decide_eq_true_eq] at hin
  simp only [Bool.or_eq_false_iff, beq_eq_false_iff_ne]
  omega
theorem rdrop_snoc {r : List UInt8} {b : UInt8} (h : blankB b = false) : rdrop (r ++ [b]) = r ++ [b] := by
  unfold rdrop
  rw [List.reverse_append]
  simp [h]
theorem trim_mem {m : Mb} (h1 : keyB m.1 = true) (h2 : valB m.2 = true) : trimB (memT m) = memT m := by
  obtain ⟨b, r, e, hb⟩ := keyB_first h1
  obtain ⟨r', b', e', hb'⟩ := val_last h2
  have hb0 : blankB b = false := by
    rw [blankB_eq]
    simp only [lowK, numK, Bool.and_eq_true, decide_eq_true_eq] at hb
    simp only [Bool.or_eq_false_iff, beq_eq_false_iff_ne]
    omega
  have h3 : ldrop (memT m) = memT m := by
    unfold memT ldrop
    rw [e, List.cons_append, List.dropWhile_cons, if_neg (by rw [hb0]; simp)]
  unfold trimB
  rw [h3]
  have : memT m = (m.1 ++ 61 :: r') ++ [b'] := by unfold memT; rw [e']; simp
  rw [this]
  exact rdrop_snoc hb'
theorem step_mem {acc : List Mb} {m : Mb} (h1 : keyB m.1 = true) (h2 : valB m.2 = true) (hn : m.1 ∉ acc.map (·.1)) (hl : acc.length < 32) : stepS acc (memT m) = (acc ++ [m], 0) := by
  have hf : findN 61 (memT m) = m.1.length := findN_app (key_none h1 61 (.inr rfl)) _
  have ht : (memT m).take m.1.length = m.1 := by unfold memT; simp
  have hd : (memT m).drop (m.1.length + 1) = m.2 := by
    unfold memT
    rw [List.drop_append]
    simp
  have hlen : (memT m).length = m.1.length + 1 + m.2.length := by unfold memT; simp; omega
  unfold stepS
  rw [trim_mem h1 h2, hf, ht, hd]
  rw [if_neg (by intro e; rw [e] at hlen; simp only [List.length_nil] at hlen; omega), if_neg (by rw [h1, h2, hlen]; simp; omega)]
  rw [if_neg (fun q => hn ((hasM_iff _ _).1 q)), if_neg (by omega)]
theorem readP_back : ∀ (L acc : List Mb), GoodM (acc ++ L) → readP (L.map memT) acc = (acc ++ L, 0)
  | [], acc, _ => by simp [readP]
  | m :: L, acc, h => by
    have hm := h.all m (by simp)
    have hl := h.len
    have hn := h.nod
    rw [List.map_append, List.map_cons, List.nodup_append] at hn
    have hs := step_mem (acc := acc) hm.1 hm.2 (fun q => hn.2.2 _ q _ (by simp) rfl) (by simp only [List.length_append, List.length_cons] at hl; omega)
    rw [List.map_cons, readP, hs, if_pos rfl, readP_back L (acc ++ [m]) (by rw [List.append_assoc]; exact h), List.append_assoc]
    rfl
theorem cut_join {c : UInt8} : ∀ {xs : List (List UInt8)}, xs ≠ [] → (∀ x ∈ xs, c ∉ x) → cutB c (Lib.join xs [c]) = xs
  | [], h, _ => absurd rfl h
  | [x], _, h => by
    show cutB c ([c].intercalate [x]) = _
    rw [show [c].intercalate [x] = x by simp [List.intercalate]]
    exact cutB_none (h x (by simp))
  | x :: y :: r, _, h => by
    have ih := cut_join (c := c) (xs := y :: r) (by simp) (fun z hz => h z (List.mem_cons_of_mem _ hz))
    have e : Lib.join (x :: y :: r) [c] = x ++ c :: Lib.join (y :: r) [c] := by
      unfold Lib.join
      simp [List.intercalate, List.intersperse]
    rw [e, cutB_app (h x (by simp)), ih]
theorem text_back {L : List Mb} (h : GoodM L) : readS (textS L) = (L, 0) := by
  unfold readS textS
  cases L with
  | nil => rfl
  | cons m L =>
    rw [cut_join (by simp) (fun x hx => by
      obtain ⟨m', hm', rfl⟩ := List.mem_map.1 hx
      exact memT_nocomma (h.all m' hm').1 (h.all m' hm').2)]
    exact readP_back (m :: L) [] h
theorem put_good {L : List Mb} {key value : List UInt8} (h : GoodM L) (h0 : (putS L key value).2 = 0) : GoodM (putS L key value).1 := by
  unfold putS at h0 ⊢
  split
  · rename_i c
    refine ⟨fun m hm => ?_, ?_, ?_⟩
    · rcases List.mem_cons.1 hm with rfl | hm
      · exact c
      · exact h.all m ((List.mem_filter.1 (List.mem_of_mem_take hm)).1)
    · simp only [List.length_cons, List.length_take]; omega
    · show (key :: ((L.filter fun m => !(m.1 == key)).take 31).map (·.1)).Nodup
      rw [List.nodup_cons]
      constructor
      · intro hk
        obtain ⟨m, hm, e⟩ := List.mem_map.1 hk
        have := (List.mem_filter.1 (List.mem_of_mem_take hm)).2
        rw [e] at this
        simp at this
      · rw [List.map_take]
        refine (List.take_sublist _ _).nodup ?_
        exact (List.filter_sublist.map _).nodup h.nod
  · rename_i c
    rw [if_neg c] at h0
    exact absurd h0 (by decide)
end Go.Proofs.YtgfdmdikiickpaaGreatDoor

/-! PStateB -/
namespace Go.Proofs.YtgfdmdikiickpaaGreatDoor

theorem cutB_find (c : UInt8) : ∀ l : List UInt8, cutB c l = if findN c l = l.length then [l] else l.take (findN c l) :: cutB c (l.drop (findN c l + 1))
  | [] => rfl
  | b :: l => by
    have ih := cutB_find c l
    by_cases h : b = c
    · subst h
      rw [cutB_eq, findN, if_pos rfl, if_neg (by simp)]
      simp
    · rw [cutB_cons h, findN, if_neg h, ih]
      by_cases e : findN c l = l.length
      · rw [if_pos e, if_pos (by simp [e])]
        rfl
      · rw [if_neg e, if_neg (by simp only [List.length_cons]; omega)]
        simp
theorem readP_at {ps : List (List UInt8)} {k : Nat} {p : List UInt8} (h : ps[k]? = some p) (acc : List Mb) : readP (ps.drop k) acc = if (stepS acc p).2 = 0 then readP (ps.drop (k + 1)) (stepS acc p).1 else stepS acc p := by
  have hlt : k < ps.length := by
    rcases Nat.lt_or_ge k ps.length with q | q
    · exact q
    · rw [List.getElem?_eq_none q] at h; cases h
  rw [List.getElem?_eq_getElem hlt] at h
  rw [List.drop_eq_getElem_cons hlt, Option.some.inj h, readP]
theorem readP_end {ps : List (List UInt8)} (acc : List Mb) : readP (ps.drop ps.length) acc = (acc, 0) := by rw [List.drop_length, readP]
theorem join_snoc (c : UInt8) : ∀ (xs : List (List UInt8)) (x : List UInt8), Lib.join (xs ++ [x]) [c] = if xs = [] then x else Lib.join xs [c] ++ c :: x
  | [], x => by simp [Lib.join, List.intercalate]
  | [y], x => by simp [Lib.join, List.intercalate, List.intersperse]
  | y :: z :: r, x => by
    have ih := join_snoc c (z :: r) x
    have e : ∀ t : List (List UInt8), Lib.join (y :: z :: t) [c] = y ++ c :: Lib.join (z :: t) [c] := fun t => by
      unfold Lib.join
      simp [List.intercalate, List.intersperse]
    rw [if_neg (by simp)] at ih ⊢
    show Lib.join (y :: z :: (r ++ [x])) [c] = _
    rw [e, e]
    rw [List.cons_append] at ih
    rw [ih]
    simp
theorem textS_snoc (L : List Mb) (m : Mb) : textS (L ++ [m]) = if L = [] then memT m else textS L ++ 44 :: memT m := by
  unfold textS
  rw [List.map_append, List.map_cons, List.map_nil, join_snoc]
  by_cases h : L = []
  · subst h; rfl
  · rw [if_neg h, if_neg (by simpa using h)]
theorem take_snoc_at {α : Type} {L : List α} {k : Nat} {m : α} (h : L[k]? = some m) : L.take (k + 1) = L.take k ++ [m] := by
  have hlt : k < L.length := by
    rcases Nat.lt_or_ge k L.length with q | q
    · exact q
    · rw [List.getElem?_eq_none q] at h; cases h
  rw [List.getElem?_eq_getElem hlt] at h
  rw [List.take_succ_eq_append_getElem hlt, Option.some.inj h]
theorem get_lt {α : Type} {L : List α} {k : Nat} (h : k < L.length) : ∃ m, L[k]? = some m := ⟨_, List.getElem?_eq_getElem h⟩
/-- The first place of a key. -/
def posM (L : List Mb) (key : List UInt8) : Option Nat := L.findIdx? fun m => m.1 == key
def idxM (L : List Mb) (key : List UInt8) : Int := match posM L key with | some k => (k : Int) | none => -1
theorem idxM_hit {L : List Mb} {key : List UInt8} {k : Nat} {m : Mb} (hk : L[k]? = some m) (hm : (m.1 == key) = true) (hno : hasM (L.take k) key = false) : idxM L key = k ∧ hasM L key = true ∧ getM L key = m.2 := by
  have hlt : k < L.length := by
    rcases Nat.lt_or_ge k L.length with q | q
    · exact q
    · rw [List.getElem?_eq_none q] at hk; cases hk
  have e : L = L.take k ++ m :: L.drop (k + 1) := by
    rw [List.getElem?_eq_getElem hlt] at hk
    obtain rfl := Option.some.inj hk
    rw [← List.drop_eq_getElem_cons hlt, List.take_append_drop]
  have hl : (L.take k).length = k := by simp; omega
  generalize L.take k = A at *
  generalize L.drop (k + 1) = B at *
  subst e
  subst hl
  unfold hasM at hno
  have hA : A.findIdx? (fun m => m.1 == key) = none := by
    rw [List.findIdx?_eq_none_iff]
    intro x hx
    have := List.any_eq_false.1 hno x hx
    simpa using this
  have hF : A.find? (fun m => m.1 == key) = none := by
    rw [List.find?_eq_none]
    intro x hx
    exact List.any_eq_false.1 hno x hx
  refine ⟨?_, ?_, ?_⟩
  · unfold idxM posM
    rw [List.findIdx?_append, hA]
    simp [List.findIdx?_cons, hm]
  · unfold hasM
    simp [hm]
  · unfold getM
    rw [List.find?_append, hF]
    simp [hm]
theorem idxM_miss {L : List Mb} {key : List UInt8} (h : hasM L key = false) : idxM L key = -1 ∧ getM L key = [] := by
  unfold hasM at h
  have hA : L.findIdx? (fun m => m.1 == key) = none := by
    rw [List.findIdx?_eq_none_iff]
    intro x hx
    have := List.any_eq_false.1 h x hx
    simpa using this
  have hF : L.find? (fun m => m.1 == key) = none := by
    rw [List.find?_eq_none]
    intro x hx
    exact List.any_eq_false.1 h x hx
  unfold idxM posM getM
  rw [hA, hF]
  exact ⟨rfl, rfl⟩
theorem hasM_snoc (L : List Mb) (m : Mb) (key : List UInt8) : hasM (L ++ [m]) key = (hasM L key || (m.1 == key)) := by simp [hasM]
theorem hasM_at : ∀ (L : List Mb) (key : List UInt8), hasM L key = true → ∃ (k : Nat) (m : Mb), L[k]? = some m ∧ idxM L key = k ∧ getM L key = m.2
  | [], key, h => by simp [hasM] at h
  | x :: L, key, h => by
    by_cases c : (x.1 == key) = true
    · exact ⟨0, x, rfl, by simp [idxM, posM, List.findIdx?_cons, c], by simp [getM, c]⟩
    · have h' : hasM L key = true := by simpa [hasM, c] using h
      obtain ⟨k, m, h1, h2, h3⟩ := hasM_at L key h'
      have c' : (x.1 == key) = false := by simpa using c
      refine ⟨k + 1, m, by simpa using h1, ?_, ?_⟩
      · unfold idxM posM at h2 ⊢
        rw [List.findIdx?_cons, c']
        cases hq : L.findIdx? (fun m => m.1 == key) with
        | none => rw [hq] at h2; simp at h2; try omega
        | some i => rw [hq] at h2; simp at h2 ⊢; try omega
      · unfold getM at h3 ⊢
        rw [List.find?_cons, c']
        exact h3
/-- What Put lays: the members, one ahead, some of them behind. -/
def putR (L : List Mb) (key value : List UInt8) : List Mb := (key, value) :: (L.filter fun m => !(m.1 == key)).take 31
theorem putR_len (L : List Mb) (key value : List UInt8) : 1 ≤ (putR L key value).length ∧ (putR L key value).length ≤ 32 := by
  unfold putR
  simp only [List.length_cons, List.length_take]
  omega
theorem filt_snoc (L : List Mb) (m : Mb) (key : List UInt8) : (L ++ [m]).filter (fun m => !(m.1 == key)) = L.filter (fun m => !(m.1 == key)) ++ (if (m.1 == key) = true then [] else [m]) := by
  rw [List.filter_append]
  by_cases h : (m.1 == key) = true
  · simp [h]
  · simp [h]
theorem putR_skip {L : List Mb} {m : Mb} {key value : List UInt8} (h : (m.1 == key) = true) : putR (L ++ [m]) key value = putR L key value := by
  unfold putR
  rw [filt_snoc, if_pos h, List.append_nil]
theorem putR_full {L : List Mb} {key value : List UInt8} (h : 32 ≤ (putR L key value).length) (X : List Mb) : putR (L ++ X) key value = putR L key value := by
  unfold putR at *
  simp only [List.length_cons, List.length_take] at h
  rw [List.filter_append, List.take_append_of_le_length (by omega)]
theorem putR_snoc {L : List Mb} {m : Mb} {key value : List UInt8} (h : (m.1 == key) = false) (hl : (putR L key value).length < 32) : putR (L ++ [m]) key value = putR L key value ++ [m] := by
  unfold putR at *
  simp only [List.length_cons, List.length_take] at hl
  rw [filt_snoc, if_neg (by rw [h]; simp)]
  rw [List.take_of_length_le (l := L.filter _) (by omega), List.take_of_length_le (by simp; omega)]
  simp
theorem putS_yes {L : List Mb} {key value : List UInt8} (h1 : keyB key = true) (h2 : valB value = true) : putS L key value = (putR L key value, 0) := by
  unfold putS
  rw [if_pos ⟨h1, h2⟩]
  rfl
theorem putS_no {L : List Mb} {key value : List UInt8} (h : ¬ (keyB key = true ∧ valB value = true)) : putS L key value = ([], 3) := by
  unfold putS
  rw [if_neg h]
theorem step_skip {acc : List Mb} {p : List UInt8} (h : trimB p = []) : stepS acc p = (acc, 0) := by
  unfold stepS
  rw [if_pos h]
theorem step_form {acc : List Mb} {p : List UInt8} (h : trimB p ≠ []) (hb : ¬ (findN 61 (trimB p) < (trimB p).length ∧ keyB ((trimB p).take (findN 61 (trimB p))) = true ∧ valB ((trimB p).drop (findN 61 (trimB p) + 1)) = true)) : stepS acc p = ([], 3) := by
  have hle := findN_le 61 (trimB p)
  unfold stepS
  rw [if_neg h, if_pos ?_]
  by_cases c1 : findN 61 (trimB p) = (trimB p).length
  · exact .inl c1
  · by_cases c2 : keyB ((trimB p).take (findN 61 (trimB p))) = true
    · refine .inr (.inr ?_)
      by_cases c3 : valB ((trimB p).drop (findN 61 (trimB p) + 1)) = true
      · exact absurd ⟨by omega, c2, c3⟩ hb
      · simpa using c3
    · exact .inr (.inl (by simpa using c2))
theorem step_rest {acc : List Mb} {p : List UInt8} (h : trimB p ≠ []) (h1 : findN 61 (trimB p) < (trimB p).length) (h2 : keyB ((trimB p).take (findN 61 (trimB p))) = true) (h3 : valB ((trimB p).drop (findN 61 (trimB p) + 1)) = true) :
    stepS acc p = if hasM acc ((trimB p).take (findN 61 (trimB p))) = true then ([], 8) else if acc.length = 32 then ([], 34) else (acc ++ [((trimB p).take (findN 61 (trimB p)), (trimB p).drop (findN 61 (trimB p) + 1))], 0) := by
  unfold stepS
  rw [if_neg h, if_neg (by rw [h2, h3]; simp; omega)]
theorem idx_neg {L : List Mb} {key : List UInt8} : (hasM L key = true ∧ 0 ≤ idxM L key) ∨ (hasM L key = false ∧ idxM L key = -1) := by
  by_cases h : hasM L key = true
  · obtain ⟨k, m, _, h2, _⟩ := hasM_at L key h
    exact .inl ⟨h, by omega⟩
  · have h' : hasM L key = false := by simpa using h
    exact .inr ⟨h', (idxM_miss h').1⟩
/-- What is left to be read from a place on. -/
def contR (s : List UInt8) (n : Nat) (acc : List Mb) : List Mb × Int := if s.length < n then (acc, 0) else readP (cutB 44 (s.drop n)) acc
theorem contR_start (s : List UInt8) : readS s = contR s 0 [] := by
  unfold contR
  rw [if_neg (by omega), List.drop_zero]
  rfl
theorem contR_end {s : List UInt8} {n : Nat} (h : s.length < n) (acc : List Mb) : contR s n acc = (acc, 0) := by
  unfold contR
  rw [if_pos h]
theorem contR_step {s : List UInt8} {n : Nat} (h : n ≤ s.length) (acc : List Mb) :
    contR s n acc = if (stepS acc ((s.drop n).take (findN 44 (s.drop n)))).2 = 0 then contR s (n + findN 44 (s.drop n) + 1) (stepS acc ((s.drop n).take (findN 44 (s.drop n)))).1 else stepS acc ((s.drop n).take (findN 44 (s.drop n))) := by
  have hle := findN_le 44 (s.drop n)
  have hdl : (s.drop n).length = s.length - n := by rw [List.length_drop]
  conv => lhs; unfold contR
  rw [if_neg (by omega), cutB_find]
  by_cases e : findN 44 (s.drop n) = (s.drop n).length
  · rw [if_pos e, readP, readP, e, List.take_length, contR_end (by omega)]
  · rw [if_neg e, readP]
    unfold contR
    rw [if_neg (c := s.length < n + findN 44 (s.drop n) + 1) (by omega), List.drop_drop]
    rw [show n + (findN 44 (s.drop n) + 1) = n + findN 44 (s.drop n) + 1 by omega]
theorem key_len {s : List UInt8} (h : keyB s = true) : s.length ≤ 256 := by
  have hle := findN_le 64 s
  unfold keyB at h
  split at h
  · rw [Bool.and_eq_true] at h
    have := (allB_of h.1).2.2
    omega
  · rename_i c
    simp only [Bool.and_eq_true] at h
    have h1 := (allB_of h.1.1).2.2
    have h2 := (allB_of h.2.1).2.2
    rw [List.length_take] at h1
    rw [List.length_drop] at h2
    omega
theorem val_len {s : List UInt8} (h : valB s = true) : s.length ≤ 256 := by
  unfold valB at h
  rw [Bool.and_eq_true] at h
  have := (allB_of h.1).2.2
  omega
theorem good_len {m : Mb} (h1 : keyB m.1 = true) (h2 : valB m.2 = true) : m.1.length ≤ 300 ∧ m.2.length ≤ 300 := by
  have := key_len h1
  have := val_len h2
  omega
end Go.Proofs.YtgfdmdikiickpaaGreatDoor

/-! Arr -/
namespace Go.Proofs.YtgfdmdikiickpaaGreatDoor
open Go.RowKit

theorem size_u8 (w : World) : (sizeOf 5).run Tryz.prog w = .ok 1 w := by
  obtain ⟨i0, hi, hz0, hz1, hz2⟩ := info_parts info_u8
  simp [sizeOf, typeInfo, hi, hz1]
theorem arr_parts {t : TypeId} {n : Nat} (ht : Tryz.prog.underlying t = some (.array n 5)) : Tryz.prog.arrayLen t = n ∧ Tryz.prog.elem t = 5 := by
  simp [Program.arrayLen, Program.elem, ht]
theorem add_zero' (g j : Nat) : (⟨g, 0, none⟩ : Addr).add (j * 1) = ⟨g, j, none⟩ := by rw [Nat.mul_one]; exact add_zero_off g j
theorem run_slice_from_arr {t : TypeId} {n : Nat} (ht : Tryz.prog.underlying t = some (.array n 5)) (g j : Nat) (k : IntKind) (W : World) (hj : j ≤ n) :
    (Instr.sliceAt t (.pointer (some ⟨g, 0, none⟩)) (some (.int k (j : Int))) none none).run Tryz.prog W = .ok (.slice (some (if n = j then ⟨g, 0, none⟩ else ⟨g, j, none⟩)) (n - j) (n - j)) W := by
  obtain ⟨h1, h2⟩ := arr_parts ht
  rw [run_sliceAt_array_l W t ⟨g, 0, none⟩ (by rw [h1, h2]; exact ht) k (j : Int) (by omega) (by rw [h1]; omega), h1, h2, size_u8]
  show Result.ok (slicedAt ⟨g, 0, none⟩ (j : Int).toNat n n 1) W = _
  simp only [slicedAt, Int.toNat_natCast, add_zero']
theorem run_slice_all_arr {t : TypeId} {n : Nat} (ht : Tryz.prog.underlying t = some (.array n 5)) (g : Nat) (W : World) :
    (Instr.sliceAt t (.pointer (some ⟨g, 0, none⟩)) none none none).run Tryz.prog W = .ok (.slice (some ⟨g, 0, none⟩) n n) W := by
  obtain ⟨h1, h2⟩ := arr_parts ht
  rw [run_sliceAt_array_all W t ⟨g, 0, none⟩ (by rw [h1, h2]; exact ht), h1, h2, size_u8]
  simp only [slicedAt, Nat.zero_mul, Nat.sub_zero]
  have e : (⟨g, 0, none⟩ : Addr).add 0 = ⟨g, 0, none⟩ := add_zero_off g 0
  rw [e]; simp
theorem b8s_set (L : List UInt8) (j : Nat) (n : Int) (h0 : 0 ≤ n) (h1 : n ≤ 255) : (b8s L).toArray.setIfInBounds j (.int .u8 n) = (b8s (L.set j (bt n))).toArray := by
  rw [← b8_bt n h0 h1]
  simp [b8s, List.map_set]
theorem drop_set (L : List UInt8) (j : Nat) (b : UInt8) (h : j < L.length) : (L.set j b).drop j = b :: L.drop (j + 1) := by
  rw [List.drop_eq_getElem_cons (by simpa using h), List.getElem_set_self]
  rw [List.drop_set_of_lt (by omega)]
theorem blk_byte {w : World} {g j : Nat} {t : TypeId} {L : List UInt8} (h : Blk w g t (b8s L).toArray) (hj : j < L.length) : w.cell? ⟨g, j, none⟩ = some (.int .u8 (byteAt L j)) := by
  rw [h.cell j]
  simp [b8s, b8, byteAt, List.getD, hj]
theorem add_off (g i j : Nat) : (⟨g, i, none⟩ : Addr).add j = ⟨g, i + j, none⟩ := by
  unfold Addr.add; split <;> simp_all
theorem blk_from {w : World} {g j : Nat} {t : TypeId} {L : List UInt8} (h : Blk w g t (b8s L).toArray) : ∀ i u, (b8s (L.drop j))[i]? = some u → w.cell? ((⟨g, j, none⟩ : Addr).add i) = some u := by
  intro i u hu
  rw [add_off, h.cell (j + i), ← hu]
  simp [b8s]
end Go.Proofs.YtgfdmdikiickpaaGreatDoor

/-! Agg -/
namespace Go.Proofs.YtgfdmdikiickpaaGreatDoor
open Go.RowKit

/-- An array of bytes. -/
def Av (l : List UInt8) : Value := .agg (b8s l).toArray
@[go_sem high] theorem cells_Av (l : List UInt8) : (Av l).cells = (b8s l).toArray := rfl
@[go_sem high] theorem cells_match_Av (l : List UInt8) : Value.cells.match_1 (fun _ => Array Value) (Av l) (fun cs => cs) (fun v => #[v]) = (b8s l).toArray := rfl
theorem bs_blk {w : World} {g : Nat} {t : TypeId} {l : List UInt8} (h : Blk w g t (b8s l).toArray) (n : Nat) (hn : l.length = n) : Bs w w.heap.size (.slice (some ⟨g, 0, none⟩) n n) l := by
  subst hn
  refine ⟨_, _, rfl, Nat.le_refl _, by simp, fun _ => ⟨_, rfl, h.lt, fun j u hu => ?_⟩⟩
  rw [add_zero_off, h.cell j, ← hu]
  simp
theorem conv_box (w : World) (t : TypeId) (l : List UInt8) (n : Nat) (hn : l.length = n) :
    (convert 117 9 (.slice (some ⟨w.heap.size, 0, none⟩) n n)).run Tryz.prog (w.alloc (.cells (b8s l).toArray t)) = .ok (Sv l) (w.alloc (.cells (b8s l).toArray t)) :=
  run_to_string (bs_blk (Blk.new w t _) n hn)
theorem info_trace : (Tryz.prog.info? 27).map (·.size) = some 16 := by kernel_rfl
theorem info_span : (Tryz.prog.info? 29).map (·.size) = some 8 := by kernel_rfl
theorem run_load_av {w : World} {g ty n : Nat} {t : TypeId} {l : List UInt8} (hb : Blk w g t (b8s l).toArray) (hty : Tryz.prog.underlying ty = some (.array n 5)) (hi : (Tryz.prog.info? ty).map (·.size) = some n) (hl : l.length = n) :
    (loadVar ty ⟨g, 0, none⟩).run Tryz.prog w = .ok (Av l) w :=
  run_loadVar_row w g t ty _ _ _ hb hty rfl (by rw [hi]; simp [hl])
theorem wpList_load_av {ops : Array Oper} {rest : List Oper} {o : Oper} {a : Act} {w : World} {Q : Exit → Act → World → Prop} (hgd : o.guard = none) (ty : TypeId) (x : Operand) (ho : o.op = .load ty x)
    (g n : Nat) (l : List UInt8) (t : TypeId) (hx : a.eval x = .pointer (some ⟨g, 0, none⟩)) (hb : Blk w g t (b8s l).toArray) (hty : Tryz.prog.underlying ty = some (.array n 5)) (hi : (Tryz.prog.info? ty).map (·.size) = some n) (hl : l.length = n)
    (h : wpList Tryz.prog ops Q rest (a.put o.dst (Av l)) w) : wpList Tryz.prog ops Q (o :: rest) a w :=
  wpList_load_row hgd ty x ho g hx t _ _ _ hb hty rfl (by rw [hi]; simp [hl]) h
theorem setRow_blk {w : World} {g : Nat} {t : TypeId} {cs : Array Value} (h : Blk w g t cs) (cs' : Array Value) : Blk (w.setRow g cs') g t cs' := by
  unfold Blk at h ⊢
  simp [World.setRow, Array.getElem?_modify, h]
theorem setRow_below {B : Nat} {a w : World} {g : Nat} (h : Below B a w) (hg : B ≤ g) (cs' : Array Value) : Below B a (w.setRow g cs') := by
  refine h.trans ⟨rfl, rfl, rfl, by simp [World.setRow], fun i hi => ?_⟩
  simp only [World.setRow, Array.getElem?_modify]
  rw [if_neg (by omega)]
theorem setRow_far {w : World} {g g' : Nat} {t : TypeId} {cs cs' : Array Value} (h : Blk w g t cs) (hne : g' ≠ g) : Blk (w.setRow g' cs') g t cs := by
  unfold Blk at h ⊢
  simp only [World.setRow, Array.getElem?_modify]
  rw [if_neg hne]; exact h
theorem b8s_all (l : List UInt8) : (b8s l).toArray.all (·.oneCell') = true := by
  rw [Array.all_eq_true_iff_forall_mem]
  intro v hv
  exact b8s_one l v (by simpa using hv)
theorem wpList_store_av {ops : Array Oper} {rest : List Oper} {o : Oper} {a : Act} {w : World} {Q : Exit → Act → World → Prop} (hgd : o.guard = none) (ty : TypeId) (x y : Operand) (ho : o.op = .store ty x y)
    (g n : Nat) (l l0 : List UInt8) (t : TypeId) (hx : a.eval x = .pointer (some ⟨g, 0, none⟩)) (hy : a.eval y = Av l) (hb : Blk w g t (b8s l0).toArray) (hi : (Tryz.prog.info? ty).map (·.size) = some n) (hl : l.length = n) (hl0 : l0.length = n)
    (h : ∀ w', w' = w.setRow g (b8s l).toArray → Blk w' g t (b8s l).toArray → wpList Tryz.prog ops Q rest (a.put o.dst undef) w') : wpList Tryz.prog ops Q (o :: rest) a w :=
  wpList_store_row hgd ty x y ho g _ hx hy t _ hb (by rw [hi]; simp [hl]) (by simp [hl, hl0]) (b8s_all l) (h _ rfl (setRow_blk hb _))
def zb (n : Nat) : List UInt8 := List.replicate n 0
@[simp] theorem zb_length (n : Nat) : (zb n).length = n := by simp [zb]
/-- '==' between two arrays of bytes. -/
theorem run_eq_av (w : World) (ty n : Nat) (hty : Tryz.prog.underlying ty = some (.array n 5)) (x y : List UInt8) (hx : x.length = n) (hy : y.length = n) :
    (binOp .eql ty (Av x) (Av y)).run Tryz.prog w = .ok (.bool (x == y)) w :=
  run_eql_bytes w ty 5 n hty Tryz.underlying5 (fun w => size_u8 w) x y hx hy
theorem run_neq_av (w : World) (ty n : Nat) (hty : Tryz.prog.underlying ty = some (.array n 5)) (x y : List UInt8) (hx : x.length = n) (hy : y.length = n) :
    (binOp .neq ty (Av x) (Av y)).run Tryz.prog w = .ok (.bool (!(x == y))) w := by
  show (binOp .neq ty (.agg _) (.agg _)).run Tryz.prog w = _
  rw [run_neq_struct]
  have := run_equalIn_bytes (P := Tryz.prog) w 9998 ty 5 n hty Tryz.underlying5 (fun w => size_u8 w) x y hx hy
  rw [show (b8s x).toArray = (x.map Extern.Stop.cell).toArray from rfl, show (b8s y).toArray = (y.map Extern.Stop.cell).toArray from rfl, this]
  rfl
theorem results_av2 {fn : Func} {p q : Tmp} {ty n : Nat} (h : fn.results = #[.cell p ty, .tmp q]) (tmps : Array Value) (w : World) (g : Nat) (t : TypeId) (l : List UInt8)
    (hp : tmps.getD p undef = .pointer (some ⟨g, 0, none⟩)) (hb : Blk w g t (b8s l).toArray) (hty : Tryz.prog.underlying ty = some (.array n 5)) (hi : (Tryz.prog.info? ty).map (·.size) = some n) (hl : l.length = n) :
    (results fn tmps).run Tryz.prog w = .ok (.tuple #[Av l, tmps.getD q undef]) w := by
  have hp' : tmps[p]?.getD undef = .pointer (some ⟨g, 0, none⟩) := by simpa using hp
  simp [results, h, hp', asAddr, run_load_av hb hty hi hl]
theorem results_av1 {fn : Func} {p : Tmp} {ty n : Nat} (h : fn.results = #[.cell p ty]) (tmps : Array Value) (w : World) (g : Nat) (t : TypeId) (l : List UInt8)
    (hp : tmps.getD p undef = .pointer (some ⟨g, 0, none⟩)) (hb : Blk w g t (b8s l).toArray) (hty : Tryz.prog.underlying ty = some (.array n 5)) (hi : (Tryz.prog.info? ty).map (·.size) = some n) (hl : l.length = n) :
    (results fn tmps).run Tryz.prog w = .ok (Av l) w := by
  have hp' : tmps[p]?.getD undef = .pointer (some ⟨g, 0, none⟩) := by simpa using hp
  simp [results, h, hp', asAddr, run_load_av hb hty hi hl]
/-- '==' and '!=' with the array of noughts, as the walk spells it. -/
theorem run_eq_z16 (w : World) (x : List UInt8) (hx : x.length = 16) : (binOp .eql 27 (Av x) (.agg #[.int .u8 0, .int .u8 0, .int .u8 0, .int .u8 0, .int .u8 0, .int .u8 0, .int .u8 0, .int .u8 0, .int .u8 0, .int .u8 0, .int .u8 0, .int .u8 0, .int .u8 0, .int .u8 0, .int .u8 0, .int .u8 0])).run Tryz.prog w = .ok (.bool (x == zb 16)) w :=
  run_eq_av w 27 16 Tryz.underlying27 x (zb 16) hx (zb_length 16)
theorem run_eq_z8 (w : World) (x : List UInt8) (hx : x.length = 8) : (binOp .eql 29 (Av x) (.agg #[.int .u8 0, .int .u8 0, .int .u8 0, .int .u8 0, .int .u8 0, .int .u8 0, .int .u8 0, .int .u8 0])).run Tryz.prog w = .ok (.bool (x == zb 8)) w :=
  run_eq_av w 29 8 Tryz.underlying29 x (zb 8) hx (zb_length 8)
theorem run_neq_z16 (w : World) (x : List UInt8) (hx : x.length = 16) : (binOp .neq 27 (Av x) (.agg #[.int .u8 0, .int .u8 0, .int .u8 0, .int .u8 0, .int .u8 0, .int .u8 0, .int .u8 0, .int .u8 0, .int .u8 0, .int .u8 0, .int .u8 0, .int .u8 0, .int .u8 0, .int .u8 0, .int .u8 0, .int .u8 0])).run Tryz.prog w = .ok (.bool (!(x == zb 16))) w :=
  run_neq_av w 27 16 Tryz.underlying27 x (zb 16) hx (zb_length 16)
theorem run_neq_z8 (w : World) (x : List UInt8) (hx : x.length = 8) : (binOp .neq 29 (Av x) (.agg #[.int .u8 0, .int .u8 0, .int .u8 0, .int .u8 0, .int .u8 0, .int .u8 0, .int .u8 0, .int .u8 0])).run Tryz.prog w = .ok (.bool (!(x == zb 8))) w :=
  run_neq_av w 29 8 Tryz.underlying29 x (zb 8) hx (zb_length 8)
/-- copy of a text's bytes into an array. -/
theorem wpList_copy_str {ops : Array Oper} {rest : List Oper} {o : Oper} {a : Act} {w : World} {Q : Exit → Act → World → Prop} (hgd : o.guard = none) (d s : Operand)
    (ho : o.op = .call { callee := .builtin .copy, args := #[d, s], argTypes := #[117, 9] }) (g off n cap : Nat) (t : TypeId) (L b : List UInt8)
    (hd : a.eval d = .slice (some ⟨g, off, none⟩) n cap) (hs : a.eval s = Sv b) (hb : Blk w g t (b8s L).toArray) (hn : b.length ≤ n) (hfit : off + b.length ≤ L.length)
    (h : ∀ w' cs, w' = w.setRow g cs → Blk w' g t (b8s (L.take off ++ b ++ L.drop (off + b.length))).toArray → wpList Tryz.prog ops Q rest (a.put o.dst (goInt b.length)) w') : wpList Tryz.prog ops Q (o :: rest) a w := by
  obtain ⟨i0, hi, hz0, hz1, hz2⟩ := info_parts info_u8
  refine wpList_plain hgd fun K hK => ?_
  have hrun := Lib.run_copy_row_string (P := Tryz.prog) w 117 9 o.type 5 g off n cap ⟨b.toArray⟩ (b8s L).toArray t und_bytes (by rw [hi]; simp [hz1]) hb hn (by simpa [ByteArray.size] using hfit)
  unfold Oper.wp
  have hs' : a.eval s = .string ⟨b.toArray⟩ := hs
  simp only [execOp, ho, resolve, invoke, builtin, Sem.run_bind, Sem.run_pure, Result.andThen_ok, List.map_toArray, List.map_cons, List.map_nil, hd, hs', hrun]
  refine hK _ _ (h _ _ rfl ?_)
  have hc := setRow_blk hb ((b8s L).take off ++ Lib.byteCells b ++ (b8s L).drop (off + (⟨b.toArray⟩ : ByteArray).size)).toArray
  have e : (b8s L).take off ++ Lib.byteCells b ++ (b8s L).drop (off + (⟨b.toArray⟩ : ByteArray).size) = b8s (L.take off ++ b ++ L.drop (off + b.length)) := by
    simp [b8s, List.map_take, List.map_drop, ByteArray.size]; rfl
  exact e ▸ hc
theorem guard_trace : Tryz.prog.eqGuardType Tryz.prog.depth 27 = false := by kernel_rfl
@[go_sem] theorem run_eqGuard_trace (w : World) (op : BinOp) (x y : Operand) (a : List UInt8) (ys : Array Value) : (eqGuard op 27 x y (Av a) (.agg ys)).run Tryz.prog w = .ok () w := run_eqGuard_agg w op _ x y _ ys guard_trace
@[go_sem] theorem run_eqGuard_trace2 (w : World) (op : BinOp) (x y : Operand) (a b : List UInt8) : (eqGuard op 27 x y (Av a) (Av b)).run Tryz.prog w = .ok () w := run_eqGuard_agg w op _ x y _ _ guard_trace
theorem guard_span : Tryz.prog.eqGuardType Tryz.prog.depth 29 = false := by kernel_rfl
@[go_sem] theorem run_eqGuard_span (w : World) (op : BinOp) (x y : Operand) (a : List UInt8) (ys : Array Value) : (eqGuard op 29 x y (Av a) (.agg ys)).run Tryz.prog w = .ok () w := run_eqGuard_agg w op _ x y _ ys guard_span
@[go_sem] theorem run_eqGuard_span2 (w : World) (op : BinOp) (x y : Operand) (a b : List UInt8) : (eqGuard op 29 x y (Av a) (Av b)).run Tryz.prog w = .ok () w := run_eqGuard_agg w op _ x y _ _ guard_span
end Go.Proofs.YtgfdmdikiickpaaGreatDoor

/-! Bits -/
namespace Go.Proofs.YtgfdmdikiickpaaGreatDoor
theorem ofInt_i64 (a : Nat) (ha : a < 9223372036854775808) : (BitVec.ofInt 64 (a : Int)).toNat = a := by
  rw [BitVec.ofInt_natCast, BitVec.toNat_ofNat]; exact Nat.mod_eq_of_lt (by omega)
theorem i64_or_nat (a b : Nat) (ha : a < 9223372036854775808) (hb : b < 9223372036854775808) : bits .or .i64 (a : Int) (b : Int) = ((a ||| b : Nat) : Int) := by
  have hx : a ||| b < 2 ^ 63 := Nat.or_lt_two_pow (by omega) (by omega)
  show IntKind.i64.wrap ((BitVec.ofInt 64 (a : Int) ||| BitVec.ofInt 64 (b : Int)).toNat : Int) = _
  rw [BitVec.toNat_or, ofInt_i64 a ha, ofInt_i64 b hb, IntKind.wrap_i64]
  omega
theorem nat_or16 (a b : Nat) (hb : b ≤ 15) : a * 16 ||| b = a * 16 + b := by
  have := Nat.shiftLeft_add_eq_or_of_lt (b := b) (i := 4) (by omega) a
  rw [Nat.shiftLeft_eq] at this
  exact this.symm
theorem or16 (a b : Int) (ha : 0 ≤ a) (ha' : a ≤ 15) (hb : 0 ≤ b) (hb' : b ≤ 15) : bits .or .i64 (a * 16) b = a * 16 + b := by
  obtain ⟨m, rfl⟩ := Int.eq_ofNat_of_zero_le ha
  obtain ⟨n, rfl⟩ := Int.eq_ofNat_of_zero_le hb
  have := i64_or_nat (m * 16) n (by omega) (by omega)
  rw [nat_or16 m n (by omega)] at this
  push_cast at this
  exact this
end Go.Proofs.YtgfdmdikiickpaaGreatDoor

/-! Hexa -/
namespace Go.Proofs.YtgfdmdikiickpaaGreatDoor
open Go.RowKit

def hexDigits : List UInt8 := [48, 49, 50, 51, 52, 53, 54, 55, 56, 57, 97, 98, 99, 100, 101, 102]
def hexS : ByteArray := ⟨#[48, 49, 50, 51, 52, 53, 54, 55, 56, 57, 97, 98, 99, 100, 101, 102]⟩

theorem hexS_size : hexS.size = 16 := rfl
theorem hex_at (k : Nat) (h : k < 16) (h' : k < hexS.size) : (hexS[k]'h').toNat < 128 ∧ ((hexS[k]'h').toNat : Int) = (if k < 10 then 48 + (k : Int) else 87 + (k : Int)) := by
  have : ∀ k : Fin 16, (hexS[k.val]'(k.isLt)).toNat < 128 ∧ ((hexS[k.val]'(k.isLt)).toNat : Int) = (if k.val < 10 then 48 + (k.val : Int) else 87 + (k.val : Int)) := by decide +kernel
  exact this ⟨k, h⟩
theorem nib_hit (c : Int) (k : Nat) (h : k < 16) (e : (if k < 10 then 48 + (k : Int) else 87 + (k : Int)) = c) : nibV c = k ∧ nibOk c = true := by
  unfold nibV nibOk
  split at e <;> simp <;> (repeat' split) <;> omega
theorem nib_miss (c : Int) (h : ∀ k : Nat, k < 16 → (if k < 10 then 48 + (k : Int) else 87 + (k : Int)) ≠ c) : nibV c = 0 ∧ nibOk c = false := by
  have h1 : ¬ (48 ≤ c ∧ c ≤ 57) := fun hh => by
    have := h (c - 48).toNat (by omega)
    rw [if_pos (by omega)] at this
    omega
  have h2 : ¬ (97 ≤ c ∧ c ≤ 102) := fun hh => by
    have := h (c - 87).toNat (by omega)
    rw [if_neg (by omega)] at this
    omega
  simp [nibV, nibOk, h1, h2]

def NibRel (c : Int) (pos : Nat) : Prop := ∀ k : Nat, k < pos → (if k < 10 then 48 + (k : Int) else 87 + (k : Int)) ≠ c
set_option maxRecDepth 100000 in
set_option maxHeartbeats 400000 in
theorem nibble_any (c : Int) (w : World) (h0 : 0 ≤ c) (h1 : c ≤ 255) :
    Calls Tryz.prog 127 #[.int .u8 c] w fun e w' => e = .returned (.tuple #[.int .i64 (nibV c), .bool (nibOk c)]) ∧ Below w.heap.size w w' := by
  go_enter Tryz.func127, Tryz.ntmps127
  go_wp2
  go_loopw [] (fun wr => ∃ pos : Nat, pos ≤ 16 ∧ wr.heap[w.heap.size]? = some (.stringIter hexS pos) ∧ Below w.heap.size w wr ∧ NibRel c pos) (fun wr => 16 - wr.iterPos w.heap.size)
  case atStart => exact ⟨0, by omega, World.iter_heap w hexS 0, (Below.refl _ _).alloc (Nat.le_refl _) _, fun k hk => by omega⟩
  case round =>
    obtain ⟨pos, hp, hit, hbw, hrel⟩ := hrel
    have hpos := hid (iterPos_of hit)
    have HR := hid hrel
    have HI := hid hit
    clear hrel
    by_cases hlt : pos < 16
    · have hnx := fun ty => Lib.run_next_ascii_at (P := Tryz.prog) wr w.heap.size hexS pos ty hit hlt (hex_at pos hlt hlt).1
      rw [(hex_at pos hlt hlt).2] at hnx
      clear hit
      generalize hd : (if pos < 10 then 48 + (pos : Int) else 87 + (pos : Int)) = d at hnx
      have HD := hid hd
      have hd0 : 48 ≤ d ∧ d ≤ 102 := by rw [← hd]; split <;> omega
      obtain ⟨hd0, hd1⟩ := hd0
      clear hd
      go_wp2
      · have e : c = d := by simpa using (by assumption : (c == d) = true)
        obtain ⟨n1, n2⟩ := nib_hit c pos hlt (by rw [HD.out, e])
        go_ret2
        exact ⟨by rw [n1, n2]; rfl, below_iterAt hbw (Nat.le_refl _) _ _⟩
      · have e : c ≠ d := by simpa using (by assumption : (c == d) = false)
        go_roundw
        case rel =>
          refine ⟨pos + 1, by omega, Lib.iterAt_heap _ _ _ _ _ HI.out, below_iterAt hbw (Nat.le_refl _) _ _, fun k hk => ?_⟩
          by_cases hk' : k < pos
          · exact HR.out k hk'
          · obtain rfl : k = pos := by omega
            rw [HD.out]; exact fun h => e h.symm
        case measure =>
          rw [hpos.out, iterPos_of (Lib.iterAt_heap _ _ _ _ _ HI.out)]
          omega
    · obtain rfl : pos = 16 := by omega
      have hnx := fun ty => Lib.run_next_end_at (P := Tryz.prog) wr w.heap.size hexS 16 ty hit (by decide)
      clear hit
      go_wp2
      obtain ⟨n1, n2⟩ := nib_miss c HR.out
      go_ret2
      exact ⟨by rw [n1, n2]; rfl, hbw⟩

def ReadRel (s : List UInt8) (k : Nat) (acc : List UInt8) : Prop := hexDec s = (hexDec (s.drop k)).map (acc ++ ·)
def hexOut (s : List UInt8) : Value := .tuple #[Sv ((hexDec s).getD []), .int .i64 (if (hexDec s).isSome then 0 else 3)]
set_option maxRecDepth 100000 in
set_option maxHeartbeats 1000000 in
theorem hread_any (s : List UInt8) (w : World) (hs : s.length ≤ 140737488355328) :
    Calls Tryz.prog 108 #[Sv s] w fun e w' => e = .returned (hexOut s) ∧ Below w.heap.size w w' := by
  by_cases hodd : s.length % 2 = 0
  case neg =>
    have he := hexDec_odd s hodd
    have hb : (((s.length : Int) % 2) != 0) = true := by rw [bne_iff_ne]; omega
    have HE := hid he
    clear he
    go_enter Tryz.func108, Tryz.ntmps108
    go_wp2
    go_ret2
    exact ⟨by unfold hexOut; rw [HE.out]; rfl, Below.refl _ _⟩
  have hb : (((s.length : Int) % 2) != 0) = false := by rw [bne_eq_false_iff_eq]; omega
  have HO := hid hodd
  clear hodd
  go_enter Tryz.func108, Tryz.ntmps108
  go_wp2_with (refine wpList_make0 rfl _ _ rfl .i64 .i64 _ (s.length / 2) rfl rfl (by omega) (by omega) w (Below.refl _ _) ?_; intro v0 w0 hown0 hb0)
  go_loopw [4, 5] (fun v i wr => ∃ (k : Nat) (acc : List UInt8), 2 * k ≤ s.length ∧ i = .int .i64 (2 * (k : Int)) ∧ acc.length ≤ k ∧ Own wr w.heap.size v acc ∧ Below w.heap.size w wr ∧ ReadRel s (2 * k) acc) (fun _ i _ => s.length - (intOf i).toNat)
  case atStart => exact ⟨0, [], by omega, rfl, by simp, hown0, hb0, by simp [ReadRel]⟩
  case round =>
    obtain ⟨k, acc, hk, rfl, ha, hown, hbw, hrel⟩ := hrel
    have HR := hid hrel
    clear hrel hown0 hb0
    by_cases hlt : 2 * k < s.length
    · have hlt2 : 2 * k + 1 < s.length := by have := HO.out; omega
      have n1 := byteAt_lo s (2 * k)
      have n2 := byteAt_hi s (2 * k)
      have n3 := byteAt_lo s (2 * k + 1)
      have n4 := byteAt_hi s (2 * k + 1)
      have m1 := (nibV_bd (byteAt s (2 * k))).1
      have m2 := (nibV_bd (byteAt s (2 * k))).2
      have m3 := (nibV_bd (byteAt s (2 * k + 1))).1
      have m4 := (nibV_bd (byteAt s (2 * k + 1))).2
      by_cases hab : nibOk (byteAt s (2 * k)) = true ∧ nibOk (byteAt s (2 * k + 1)) = true
      · obtain ⟨hA, hB⟩ := hab
        have st := hid (hexDec_step s acc (2 * k) hlt2 hA hB)
        have hor := or16 _ _ m1 m2 m3 m4
        go_wp2_with (first
          | (go_at_call 127; refine (nibble_any _ _ (by omega) (by omega)).mono ?_; rintro e w' ⟨rfl, hb'⟩; have hown := hown.below hb'; have hbw := hbw.trans (hb'.mono hbw.size))
          | (at_builtin; refine wpList_app1 rfl (.tmp 45) (.tmp 51) rfl w u4 acc rfl _ hown hbw rfl (by omega) (by omega) (by omega) ?_; intro v1 w1 hown1 hbw1))
        go_roundw
        case rel =>
          refine ⟨k + 1, _, by omega, by go_num, ?_, hown1, hbw1, ?_⟩
          · simp; omega
          · have e : (nibV (byteAt s (2 * k)) * 16 + nibV (byteAt s (2 * k + 1))) = (nibV (byteAt s (2 * k)) * 16 + nibV (byteAt s (2 * k + 1))) % 256 := by omega
            unfold ReadRel
            rw [HR.out, st.out]
            rfl
        case measure => simp [intOf]; omega
      · have hn : (nibOk (byteAt s (2 * k)) && nibOk (byteAt s (2 * k + 1))) = false := by
          rw [Bool.and_eq_false_iff]
          rcases Classical.em (nibOk (byteAt s (2 * k)) = true) with h | h
          · exact .inr (by simpa using fun h' => hab ⟨h, h'⟩)
          · exact .inl (by simpa using h)
        have st := hid ((HR.out).trans (hexDec_stop s acc (2 * k) hlt2 hn))
        have HN := hid hn
        clear hab hn
        cases hA : nibOk (byteAt s (2 * k)) <;> cases hB : nibOk (byteAt s (2 * k + 1))
        case true.true => exact absurd HN.out (by rw [hA, hB]; decide)
        all_goals
          go_wp2_with (go_at_call 127; refine (nibble_any _ _ (by omega) (by omega)).mono ?_; rintro e w' ⟨rfl, hb'⟩; have hbw := hbw.trans (hb'.mono hbw.size))
          go_ret2
          exact ⟨by unfold hexOut; rw [st.out]; rfl, hbw⟩
    · have hk' : 2 * k = s.length := by omega
      have e : hexDec s = some acc := by rw [HR.out, hk']; simp [hexDec]
      have E := hid e
      have hts := run_to_string hown.bs
      clear hk' e
      go_wp2
      go_ret2
      exact ⟨by unfold hexOut; rw [E.out]; rfl, hbw⟩
end Go.Proofs.YtgfdmdikiickpaaGreatDoor

/-! HexaPut -/
namespace Go.Proofs.YtgfdmdikiickpaaGreatDoor
open Go.RowKit

set_option maxRecDepth 100000 in
set_option maxHeartbeats 1000000 in
theorem hput_any (vb : Value) (p s : List UInt8) (w : World) (hb0 : Bs w w.heap.size vb p) (hs : p.length + 2 * s.length ≤ 140737488355328) :
    Calls Tryz.prog 107 #[vb, Sv s] w fun e w' => ∃ v, e = .returned v ∧ Own w' w.heap.size v (p ++ hexEnc s) ∧ Below w.heap.size w w' := by
  obtain ⟨A, c, rfl, hlc, hr⟩ := hb0
  have hb0 : Hid (Bs w w.heap.size (.slice A p.length c) p) := ⟨A, c, rfl, hlc, hr⟩
  clear hr hlc
  go_enter Tryz.func107, Tryz.ntmps107
  go_wp2_with (first
    | (refine wpList_makeLen rfl _ _ rfl .i64 .i64 _ _ p.length (p.length + 2 * s.length) rfl rfl rfl (by omega) (by omega) (by omega) w (Below.refl _ _) ?_; intro g w0 hg hown0 hbw0)
    | (refine wpList_copyAll rfl _ _ rfl w g p.length _ _ w.heap.size _ p rfl rfl hown0 rfl (hb0.out.below hbw0) hbw0 ?_; intro w1 hown1 hbw1))
  clear hown0 hbw0 hg
  go_loopw [21, 5] (fun i v wr => ∃ (k : Nat) , k ≤ s.length ∧ i = .int .i64 (k : Int) ∧ Own wr w.heap.size v (p ++ hexEnc (s.take k)) ∧ Below w.heap.size w wr) (fun i _ _ => s.length - (intOf i).toNat)
  case atStart => exact ⟨0, by omega, rfl, by simpa [hexEnc] using hown1, hbw1⟩
  case round =>
    obtain ⟨k, hk, rfl, hown, hbw⟩ := hrel
    clear hown1 hbw1
    by_cases hlt : k < s.length
    · have n1 := byteAt_lo s k
      have n2 := byteAt_hi s k
      have q0 : 0 ≤ byteAt s k / 16 := by omega
      have q1 : byteAt s k / 16 < 16 := by omega
      have r0 : 0 ≤ byteAt s k % 16 := by omega
      have r1 : byteAt s k % 16 < 16 := by omega
      have d1 := dig_at _ q0 q1
      have d2 := dig_at _ r0 r1
      obtain ⟨x0, x1⟩ := digI_bd _ q0 q1
      obtain ⟨y0, y1⟩ := digI_bd _ r0 r1
      have hand := u8_and15 (byteAt s k) n1 (by omega)
      go_wp2_with fail
      have hl : (p ++ hexEnc (s.take k)).length + 2 ≤ 140737488355328 := by
        rw [List.length_append, hexEnc_length, List.length_take]; omega
      have sn := hid (hexEnc_snoc s k hlt)
      go_region_held3 (fun _ => True) (trivial) ((refine step_app2 rfl (.tmp 24) (.tmp 35) rfl w u5 (p ++ hexEnc (s.take k)) rfl _ _ hown.drew hbw.drew rfl x0 x1 y0 y1 hl ?_; intro v1 w1 hown1 hbw1))
      all_goals
        go_wp2
        go_roundw
        case rel => exact ⟨k + 1, by omega, by go_num, by rw [sn.out, ← List.append_assoc]; exact hown1, hbw1⟩
        case measure => simp [intOf]; omega
    · obtain rfl : k = s.length := by omega
      rw [List.take_length] at hown
      go_wp2
      go_ret
      exact ⟨_, rfl, hown, hbw⟩

set_option maxRecDepth 100000 in
set_option maxHeartbeats 1000000 in
theorem htext_any (s : List UInt8) (w : World) (hs : 2 * s.length ≤ 140737488355328) :
    Calls Tryz.prog 71 #[Sv s] w fun e w' => e = .returned (Sv (hexEnc s)) ∧ Below w.heap.size w w' := by
  go_enter Tryz.func71, Tryz.ntmps71
  go_wp2_with (go_at_call 107; refine (hput_any _ [] s _ (Bs.nil _ _) (by simpa using hs)).mono ?_; rintro e w' ⟨v, rfl, hown, hb⟩; have hts := run_to_string hown.bs; clear hown)
  go_ret
  exact ⟨rfl, hb⟩
end Go.Proofs.YtgfdmdikiickpaaGreatDoor

/-! HexaRef -/
namespace Go.Proofs.YtgfdmdikiickpaaGreatDoor
open Go.RowKit

set_option maxRecDepth 100000 in
set_option maxHeartbeats 400000 in
theorem rnib_any (c : Int) (w : World) (h0 : 0 ≤ c) (h1 : c ≤ 255) :
    Calls Tryz.prog 102 #[.int .u8 c] w fun e w' => e = .returned (.tuple #[.int .i64 (nibV c), .bool (nibOk c)]) ∧ w' = w := by
  by_cases a : 48 ≤ c
  · by_cases b : c ≤ 57
    · have hv := hid (show nibV c = c - 48 ∧ nibOk c = true by simp [nibV, nibOk, a, b])
      go_enter Tryz.func102, Tryz.ntmps102
      go_wp2
      go_ret2
      exact ⟨by rw [hv.out.1, hv.out.2]; rfl, rfl⟩
    · by_cases d : 97 ≤ c
      · by_cases f : c ≤ 102
        · have hv := hid (show nibV c = c - 87 ∧ nibOk c = true by simp [nibV, nibOk, a, b, d, f])
          go_enter Tryz.func102, Tryz.ntmps102
          go_wp2
          go_ret2
          exact ⟨by rw [hv.out.1, hv.out.2]; rfl, rfl⟩
        · have hv := hid (show nibV c = 0 ∧ nibOk c = false by simp [nibV, nibOk, b, f])
          go_enter Tryz.func102, Tryz.ntmps102
          go_wp2
          go_ret2
          exact ⟨by rw [hv.out.1, hv.out.2]; rfl, rfl⟩
      · have hv := hid (show nibV c = 0 ∧ nibOk c = false by simp [nibV, nibOk, b, d])
        go_enter Tryz.func102, Tryz.ntmps102
        go_wp2
        go_ret2
        exact ⟨by rw [hv.out.1, hv.out.2]; rfl, rfl⟩
  · have d : ¬ 97 ≤ c := by omega
    have hv := hid (show nibV c = 0 ∧ nibOk c = false by simp [nibV, nibOk, a, d])
    go_enter Tryz.func102, Tryz.ntmps102
    go_wp2
    go_ret2
    exact ⟨by rw [hv.out.1, hv.out.2]; rfl, rfl⟩

theorem dig_cut (n : Int) (h0 : 0 ≤ n) (h1 : n < 16) : List.take ((n + 1).toNat - n.toNat) (List.drop n.toNat [48, 49, 50, 51, 52, 53, 54, 55, 56, 57, 97, 98, 99, 100, 101, 102]) = [bt (digI n)] := by
  obtain ⟨m, rfl⟩ := Int.eq_ofNat_of_zero_le h0
  have : ∀ k : Fin 16, List.take (((k.val : Int) + 1).toNat - ((k.val : Int)).toNat) (List.drop ((k.val : Int)).toNat [48, 49, 50, 51, 52, 53, 54, 55, 56, 57, 97, 98, 99, 100, 101, 102]) = [bt (digI (k.val : Int))] := by decide
  exact this ⟨m, by omega⟩

set_option maxRecDepth 100000 in
set_option maxHeartbeats 1000000 in
theorem rtext_any (s : List UInt8) (w : World) (hs : s.length ≤ 281474976710656) :
    Calls Tryz.prog 74 #[Sv s] w fun e w' => e = .returned (Sv (hexEnc s)) ∧ Below w.heap.size w w' := by
  go_enter Tryz.func74, Tryz.ntmps74
  go_wp2
  go_loopw [3, 4] (fun v i wr => ∃ k : Nat, k ≤ s.length ∧ i = .int .i64 (k : Int) ∧ v = Sv (hexEnc (s.take k)) ∧ Below w.heap.size w wr) (fun _ i _ => s.length - (intOf i).toNat)
  case atStart => exact ⟨0, by omega, rfl, rfl, Below.refl _ _⟩
  case round =>
    obtain ⟨k, hk, rfl, rfl, hbw⟩ := hrel
    by_cases hlt : k < s.length
    · have n1 := byteAt_lo s k
      have n2 := byteAt_hi s k
      have q0 : 0 ≤ byteAt s k / 16 := by omega
      have q1 : byteAt s k / 16 < 16 := by omega
      have r0 : 0 ≤ byteAt s k % 16 := by omega
      have r1 : byteAt s k % 16 < 16 := by omega
      have d1 := dig_cut _ q0 q1
      have d2 := dig_cut _ r0 r1
      have hl : (hexEnc (s.take k)).length ≤ 562949953421312 := by
        rw [hexEnc_length, List.length_take]; omega
      have sn := hid (hexEnc_snoc s k hlt)
      generalize hexEnc (s.take k) = acc at hl sn ⊢
      go_wp2_with fail
      go_quiet (fail)
      go_wp2
      go_roundw
      case rel => exact ⟨k + 1, by omega, by go_num, by rw [sn.out], below_drewN hbw _⟩
      case measure => simp [intOf]; omega
    · obtain rfl : k = s.length := by omega
      rw [List.take_length]
      go_wp2
      go_ret
      exact ⟨rfl, hbw⟩

def RawRel (s : List UInt8) (k : Nat) (acc : List UInt8) : Prop := hexRaw s = acc ++ hexRaw (s.drop k)
set_option maxRecDepth 100000 in
set_option maxHeartbeats 1000000 in
theorem rread_any (s : List UInt8) (w : World) (hs : s.length ≤ 140737488355328) :
    Calls Tryz.prog 106 #[Sv s] w fun e w' => e = .returned (hexOut s) ∧ Below w.heap.size w w' := by
  go_enter Tryz.func106, Tryz.ntmps106
  go_wp2
  simp only [string_Sv]
  go_loopw [4, 5] (fun v i wr => ∃ (k : Nat) (acc : List UInt8), 2 * k ≤ s.length ∧ i = .int .i64 (2 * (k : Int)) ∧ acc.length ≤ k ∧ Own wr w.heap.size v acc ∧ Below w.heap.size w wr ∧ RawRel s (2 * k) acc) (fun _ i _ => s.length - (intOf i).toNat)
  case atStart => exact ⟨0, [], by omega, rfl, by simp, Own.nil _ _, Below.refl _ _, by simp [RawRel]⟩
  case round =>
    obtain ⟨k, acc, hk, rfl, ha, hown, hbw, hrel⟩ := hrel
    have HR := hid hrel
    clear hrel
    by_cases hlt : 2 * k + 1 < s.length
    · have n1 := byteAt_lo s (2 * k)
      have n2 := byteAt_hi s (2 * k)
      have n3 := byteAt_lo s (2 * k + 1)
      have n4 := byteAt_hi s (2 * k + 1)
      have m1 := (nibV_bd (byteAt s (2 * k))).1
      have m2 := (nibV_bd (byteAt s (2 * k))).2
      have m3 := (nibV_bd (byteAt s (2 * k + 1))).1
      have m4 := (nibV_bd (byteAt s (2 * k + 1))).2
      have st := hid (hexRaw_step s acc (2 * k) hlt)
      go_wp2_with (first
        | (go_at_call 102; refine (rnib_any _ _ (by omega) (by omega)).mono ?_; rintro e w' ⟨rfl, rfl⟩)
        | (at_builtin; refine wpList_app1 rfl (.tmp 32) (.tmp 38) rfl w u4 acc rfl _ hown hbw rfl (by omega) (by omega) (by omega) ?_; intro v1 w1 hown1 hbw1))
      go_roundw
      case rel =>
        refine ⟨k + 1, _, by omega, by go_num, ?_, hown1, hbw1, ?_⟩
        · simp; omega
        · unfold RawRel
          rw [HR.out, st.out]
          simp [Int.mul_comm]
          rfl
      case measure => simp [intOf]; omega
    · have e : hexRaw s = acc := by rw [HR.out, hexRaw_end _ _ hlt]; simp
      have E := hid e
      have hts := run_to_string hown.bs
      clear e
      cases hd : hexDec s with
      | none =>
        have hne := hid ((hexDec_none s).2 hd)
        have hb : (hexEnc acc == s) = false := by rw [← E.out]; exact beq_eq_false_iff_ne.2 hne.out
        have HD := hid hd
        clear hd
        go_wp2_with (go_at_call 74; refine (rtext_any _ _ (by omega)).mono ?_; rintro e w' ⟨rfl, hb'⟩; have hbw := hbw.trans (hb'.mono hbw.size))
        go_ret2
        exact ⟨by unfold hexOut; rw [HD.out]; rfl, hbw⟩
      | some t =>
        have hr := hexDec_raw s t hd
        have hb : (hexEnc acc == s) = true := by rw [← E.out, hr, hexEnc_dec s t hd]; simp
        have HT := hid (show acc = t by rw [← hr, E.out])
        have HD := hid hd
        clear hd hr
        go_wp2_with (go_at_call 74; refine (rtext_any _ _ (by omega)).mono ?_; rintro e w' ⟨rfl, hb'⟩; have hbw := hbw.trans (hb'.mono hbw.size); have hts := run_to_string (hown.below hb').bs)
        go_ret2
        exact ⟨by unfold hexOut; rw [HD.out, HT.out]; rfl, hbw⟩
end Go.Proofs.YtgfdmdikiickpaaGreatDoor

/-! Ident -/
namespace Go.Proofs.YtgfdmdikiickpaaGreatDoor
open Go.RowKit

set_option maxRecDepth 100000 in
theorem tracetext_any (l : List UInt8) (w : World) (hl : l.length = 16) :
    Calls Tryz.prog 69 #[Av l] w fun e w' => e = .returned (Sv (hexEnc l)) ∧ Below w.heap.size w w' := by
  have hsl := fun g W => run_slice_all_arr (t := 27) (n := 16) Tryz.underlying27 g W
  have hcv := fun W => conv_box W 27 l 16 hl
  have HL := hid hl
  clear hl
  go_enter Tryz.func69, Tryz.ntmps69
  go_wp2_with fail
  refine (htext_any l _ (by rw [HL.out]; decide)).mono ?_; rintro e w1 ⟨rfl, hb1⟩
  go_wp2_with fail
  go_ret
  exact ⟨rfl, ext_trans (ext_alloc _ _) hb1⟩
set_option maxRecDepth 100000 in
theorem spantext_any (l : List UInt8) (w : World) (hl : l.length = 8) :
    Calls Tryz.prog 70 #[Av l] w fun e w' => e = .returned (Sv (hexEnc l)) ∧ Below w.heap.size w w' := by
  have hsl := fun g W => run_slice_all_arr (t := 29) (n := 8) Tryz.underlying29 g W
  have hcv := fun W => conv_box W 29 l 8 hl
  have HL := hid hl
  clear hl
  go_enter Tryz.func70, Tryz.ntmps70
  go_wp2_with fail
  refine (htext_any l _ (by rw [HL.out]; decide)).mono ?_; rintro e w1 ⟨rfl, hb1⟩
  go_wp2_with fail
  go_ret
  exact ⟨rfl, ext_trans (ext_alloc _ _) hb1⟩

/-- A trace's name of digits: its bytes, and the code. -/
def traceT (s : List UInt8) : List UInt8 := match hexDec s with
  | some b => if s.length = 32 ∨ s.length = 16 then zb (16 - b.length) ++ b else zb 16
  | none => zb 16
def traceC (s : List UInt8) : Int := match hexDec s with
  | some b => if s.length = 32 ∨ s.length = 16 then (if zb (16 - b.length) ++ b = zb 16 then 10 else 0) else 3
  | none => 3
theorem traceT_length (s : List UInt8) : (traceT s).length = 16 := by
  unfold traceT
  split
  · rename_i b h
    have := hexDec_length s b h
    split
    · rw [List.length_append, zb_length]; omega
    · simp
  · simp
theorem copied16 (b T : List UInt8) (h : b = T) (hb : b.length = 16) : List.take 0 (zb 16) ++ b ++ List.drop (0 + b.length) (zb 16) = T := by
  rw [hb, ← h]; simp [zb]
theorem copied8 (b T : List UInt8) (h : zb 8 ++ b = T) (hb : b.length = 8) : List.take 8 (zb 16) ++ b ++ List.drop (8 + b.length) (zb 16) = T := by
  rw [hb, ← h]; simp [zb]
set_option maxRecDepth 100000 in
set_option maxHeartbeats 1000000 in
theorem readtrace_any (s : List UInt8) (w : World) (hs : s.length ≤ 140737488355328) :
    Calls Tryz.prog 89 #[Sv s] w fun e w' => e = .returned (.tuple #[Av (traceT s), .int .i64 (traceC s)]) ∧ Below w.heap.size w w' := by
  have hz := zb_length 16
  cases hd : hexDec s with
  | none =>
    have HO := hid (show hexOut s = .tuple #[Sv [], .int .i64 3] by unfold hexOut; rw [hd]; rfl)
    have HT := hid (show traceT s = zb 16 by unfold traceT; rw [hd])
    have HC := hid (show traceC s = 3 by unfold traceC; rw [hd])
    have HZ := hid hz
    clear hd hz
    go_enter Tryz.func89, Tryz.ntmps89
    go_wp2_with fail
    refine (hread_any s _ hs).mono ?_; rintro e w1 ⟨rfl, hb1⟩
    rw [HO.out]
    obtain ⟨hA, hB, z0, z1, hbw⟩ := box2 hb1
    have HA : Hid (Blk w1 w.heap.size 27 (b8s (zb 16)).toArray) := hA
    have HB : Hid (Blk w1 (w.heap.size + 1) 27 (b8s (zb 16)).toArray) := hB
    have HBW := hid hbw
    clear hA hB hbw hb1
    go_wp2_with (first
      | (refine wpList_load_av rfl 27 (.tmp 4) rfl (w.heap.size + 1) 16 (zb 16) _ rfl HB.out Tryz.underlying27 info_trace HZ.out ?_)
      | (refine wpList_store_av rfl 27 (.tmp 2) (.tmp 23) rfl w.heap.size 16 (zb 16) (zb 16) _ rfl rfl HA.out info_trace HZ.out HZ.out ?_; intro w2 hw2 hA2; have HA2 := hid hA2; have HW2 := hid hw2; clear hw2 hA2))
    exact bodyPost_ret (results_av2 rfl _ _ _ _ (zb 16) rfl HA2.out Tryz.underlying27 info_trace HZ.out) rfl ⟨by rw [HT.out, HC.out]; rfl, by rw [HW2.out]; exact setRow_below HBW.out (Nat.le_refl _) _⟩
  | some b =>
    have hbl0 := hexDec_length s b hd
    by_cases h1 : s.length = 32
    · have hbl : b.length = 16 := by omega
      have HO := hid (show hexOut s = .tuple #[Sv b, .int .i64 0] by unfold hexOut; rw [hd]; rfl)
      obtain ⟨T, hT⟩ : ∃ T, b = T := ⟨_, rfl⟩
      have HT := hid (show traceT s = T by unfold traceT; rw [hd]; simp only []; rw [if_pos (.inl h1), hbl, ← hT]; rfl)
      have HC := hid (show traceC s = if T = zb 16 then 10 else 0 by unfold traceC; rw [hd]; simp only []; rw [if_pos (.inl h1), hbl, ← hT]; rfl)
      have hTl : T.length = 16 := by rw [← hT]; simp [hbl]
      have HTE := hid hT
      have HTL := hid hTl
      have hsl := fun W => run_slice_from_arr (t := 27) (n := 16) Tryz.underlying27 (w.heap.size + 1) 0 .i64 W (by omega)
      rw [if_neg (by omega)] at hsl
      have heq := fun W => run_eq_z16 W T hTl
      have HZ := hid hz
      have HBL := hid hbl
      have k1 : IntKind.i64.wrap (16 - (b.length : Int)) = 0 := by rw [hbl]; rfl
      have l1 : ((s.length : Int) != 32) = false := by rw [h1]; rfl
      have l2 : ((s.length : Int) != 16) = true := by rw [h1]; rfl
      have HH := hid h1
      clear hd hz hbl hT hTl h1 hbl0
      by_cases hz : T = zb 16
      · have he : (T == zb 16) = true := by simpa using hz
        have HZ2 := hid hz
        clear hz
        go_enter Tryz.func89, Tryz.ntmps89
        go_wp2_with fail
        refine (hread_any s _ hs).mono ?_; rintro e w1 ⟨rfl, hb1⟩
        rw [HO.out]
        obtain ⟨hA, hB, z0, z1, hbw⟩ := box2 hb1
        have HA : Hid (Blk w1 w.heap.size 27 (b8s (zb 16)).toArray) := hA
        have HB : Hid (Blk w1 (w.heap.size + 1) 27 (b8s (zb 16)).toArray) := hB
        have HBW := hid hbw
        clear hA hB hbw hb1
        go_wp2_with (first
          | (refine wpList_load_av rfl 27 (.tmp 4) rfl (w.heap.size + 1) 16 T _ rfl HB2.out Tryz.underlying27 info_trace HTL.out ?_)
          | (refine wpList_copy_str rfl (.tmp 27) (.tmp 28) rfl (w.heap.size + 1) 0 16 16 _ (zb 16) b rfl rfl HB.out (by rw [HBL.out]; omega) (by rw [HBL.out, HZ.out]; omega) ?_; intro w2 cs2 hw2 hB2; have HB2 : Hid (Blk w2 (w.heap.size + 1) 27 (b8s T).toArray) := (by rw [copied16 b T HTE.out HBL.out] at hB2; exact hB2); have HA2 : Hid (Blk w2 w.heap.size 27 (b8s (zb 16)).toArray) := (by rw [hw2]; exact setRow_far HA.out (by omega)); have HBW2 : Hid (Below w.heap.size w w2) := (by rw [hw2]; exact setRow_below HBW.out (by omega) _); clear hw2 hB2)
          | (refine wpList_store_av rfl 27 (.tmp 2) (.tmp 33) rfl w.heap.size 16 T (zb 16) _ rfl rfl HA2.out info_trace HTL.out HZ.out ?_; intro w3 hw3 hA3; have HA3 := hid hA3; have HW3 := hid hw3; clear hw3 hA3))
        exact bodyPost_ret (results_av2 rfl _ _ _ _ T rfl HA3.out Tryz.underlying27 info_trace HTL.out) rfl ⟨by rw [HT.out, HC.out, if_pos HZ2.out]; rfl, by rw [HW3.out]; exact setRow_below HBW2.out (Nat.le_refl _) _⟩
      · have he : (T == zb 16) = false := by simpa using hz
        have HZ2 := hid hz
        clear hz
        go_enter Tryz.func89, Tryz.ntmps89
        go_wp2_with fail
        refine (hread_any s _ hs).mono ?_; rintro e w1 ⟨rfl, hb1⟩
        rw [HO.out]
        obtain ⟨hA, hB, z0, z1, hbw⟩ := box2 hb1
        have HA : Hid (Blk w1 w.heap.size 27 (b8s (zb 16)).toArray) := hA
        have HB : Hid (Blk w1 (w.heap.size + 1) 27 (b8s (zb 16)).toArray) := hB
        have HBW := hid hbw
        clear hA hB hbw hb1
        go_wp2_with (first
          | (refine wpList_load_av rfl 27 (.tmp 4) rfl (w.heap.size + 1) 16 T _ rfl HB2.out Tryz.underlying27 info_trace HTL.out ?_)
          | (refine wpList_copy_str rfl (.tmp 27) (.tmp 28) rfl (w.heap.size + 1) 0 16 16 _ (zb 16) b rfl rfl HB.out (by rw [HBL.out]; omega) (by rw [HBL.out, HZ.out]; omega) ?_; intro w2 cs2 hw2 hB2; have HB2 : Hid (Blk w2 (w.heap.size + 1) 27 (b8s T).toArray) := (by rw [copied16 b T HTE.out HBL.out] at hB2; exact hB2); have HA2 : Hid (Blk w2 w.heap.size 27 (b8s (zb 16)).toArray) := (by rw [hw2]; exact setRow_far HA.out (by omega)); have HBW2 : Hid (Below w.heap.size w w2) := (by rw [hw2]; exact setRow_below HBW.out (by omega) _); clear hw2 hB2)
          | (refine wpList_store_av rfl 27 (.tmp 2) (.tmp 34) rfl w.heap.size 16 T (zb 16) _ rfl rfl HA2.out info_trace HTL.out HZ.out ?_; intro w3 hw3 hA3; have HA3 := hid hA3; have HW3 := hid hw3; clear hw3 hA3))
        exact bodyPost_ret (results_av2 rfl _ _ _ _ T rfl HA3.out Tryz.underlying27 info_trace HTL.out) rfl ⟨by rw [HT.out, HC.out, if_neg HZ2.out]; rfl, by rw [HW3.out]; exact setRow_below HBW2.out (Nat.le_refl _) _⟩

    by_cases h16 : s.length = 16
    · clear h1
      have h1 := h16
      clear h16
      have hbl : b.length = 8 := by omega
      have HO := hid (show hexOut s = .tuple #[Sv b, .int .i64 0] by unfold hexOut; rw [hd]; rfl)
      obtain ⟨T, hT⟩ : ∃ T, zb 8 ++ b = T := ⟨_, rfl⟩
      have HT := hid (show traceT s = T by unfold traceT; rw [hd]; simp only []; rw [if_pos (.inr h1), hbl, ← hT])
      have HC := hid (show traceC s = if T = zb 16 then 10 else 0 by unfold traceC; rw [hd]; simp only []; rw [if_pos (.inr h1), hbl, ← hT])
      have hTl : T.length = 16 := by rw [← hT]; simp [hbl]
      have HTE := hid hT
      have HTL := hid hTl
      have hsl := fun W => run_slice_from_arr (t := 27) (n := 16) Tryz.underlying27 (w.heap.size + 1) 8 .i64 W (by omega)
      rw [if_neg (by omega)] at hsl
      have heq := fun W => run_eq_z16 W T hTl
      have HZ := hid hz
      have HBL := hid hbl
      have k1 : IntKind.i64.wrap (16 - (b.length : Int)) = 8 := by rw [hbl]; rfl
      have l1 : ((s.length : Int) != 32) = true := by rw [h1]; rfl
      have l2 : ((s.length : Int) != 16) = false := by rw [h1]; rfl
      have HH := hid h1
      clear hd hz hbl hT hTl h1 hbl0
      by_cases hz : T = zb 16
      · have he : (T == zb 16) = true := by simpa using hz
        have HZ2 := hid hz
        clear hz
        go_enter Tryz.func89, Tryz.ntmps89
        go_wp2_with fail
        refine (hread_any s _ hs).mono ?_; rintro e w1 ⟨rfl, hb1⟩
        rw [HO.out]
        obtain ⟨hA, hB, z0, z1, hbw⟩ := box2 hb1
        have HA : Hid (Blk w1 w.heap.size 27 (b8s (zb 16)).toArray) := hA
        have HB : Hid (Blk w1 (w.heap.size + 1) 27 (b8s (zb 16)).toArray) := hB
        have HBW := hid hbw
        clear hA hB hbw hb1
        go_wp2_with (first
          | (refine wpList_load_av rfl 27 (.tmp 4) rfl (w.heap.size + 1) 16 T _ rfl HB2.out Tryz.underlying27 info_trace HTL.out ?_)
          | (refine wpList_copy_str rfl (.tmp 27) (.tmp 28) rfl (w.heap.size + 1) 8 8 8 _ (zb 16) b rfl rfl HB.out (by rw [HBL.out]; omega) (by rw [HBL.out, HZ.out]; omega) ?_; intro w2 cs2 hw2 hB2; have HB2 : Hid (Blk w2 (w.heap.size + 1) 27 (b8s T).toArray) := (by rw [copied8 b T HTE.out HBL.out] at hB2; exact hB2); have HA2 : Hid (Blk w2 w.heap.size 27 (b8s (zb 16)).toArray) := (by rw [hw2]; exact setRow_far HA.out (by omega)); have HBW2 : Hid (Below w.heap.size w w2) := (by rw [hw2]; exact setRow_below HBW.out (by omega) _); clear hw2 hB2)
          | (refine wpList_store_av rfl 27 (.tmp 2) (.tmp 33) rfl w.heap.size 16 T (zb 16) _ rfl rfl HA2.out info_trace HTL.out HZ.out ?_; intro w3 hw3 hA3; have HA3 := hid hA3; have HW3 := hid hw3; clear hw3 hA3))
        exact bodyPost_ret (results_av2 rfl _ _ _ _ T rfl HA3.out Tryz.underlying27 info_trace HTL.out) rfl ⟨by rw [HT.out, HC.out, if_pos HZ2.out]; rfl, by rw [HW3.out]; exact setRow_below HBW2.out (Nat.le_refl _) _⟩
      · have he : (T == zb 16) = false := by simpa using hz
        have HZ2 := hid hz
        clear hz
        go_enter Tryz.func89, Tryz.ntmps89
        go_wp2_with fail
        refine (hread_any s _ hs).mono ?_; rintro e w1 ⟨rfl, hb1⟩
        rw [HO.out]
        obtain ⟨hA, hB, z0, z1, hbw⟩ := box2 hb1
        have HA : Hid (Blk w1 w.heap.size 27 (b8s (zb 16)).toArray) := hA
        have HB : Hid (Blk w1 (w.heap.size + 1) 27 (b8s (zb 16)).toArray) := hB
        have HBW := hid hbw
        clear hA hB hbw hb1
        go_wp2_with (first
          | (refine wpList_load_av rfl 27 (.tmp 4) rfl (w.heap.size + 1) 16 T _ rfl HB2.out Tryz.underlying27 info_trace HTL.out ?_)
          | (refine wpList_copy_str rfl (.tmp 27) (.tmp 28) rfl (w.heap.size + 1) 8 8 8 _ (zb 16) b rfl rfl HB.out (by rw [HBL.out]; omega) (by rw [HBL.out, HZ.out]; omega) ?_; intro w2 cs2 hw2 hB2; have HB2 : Hid (Blk w2 (w.heap.size + 1) 27 (b8s T).toArray) := (by rw [copied8 b T HTE.out HBL.out] at hB2; exact hB2); have HA2 : Hid (Blk w2 w.heap.size 27 (b8s (zb 16)).toArray) := (by rw [hw2]; exact setRow_far HA.out (by omega)); have HBW2 : Hid (Below w.heap.size w w2) := (by rw [hw2]; exact setRow_below HBW.out (by omega) _); clear hw2 hB2)
          | (refine wpList_store_av rfl 27 (.tmp 2) (.tmp 34) rfl w.heap.size 16 T (zb 16) _ rfl rfl HA2.out info_trace HTL.out HZ.out ?_; intro w3 hw3 hA3; have HA3 := hid hA3; have HW3 := hid hw3; clear hw3 hA3))
        exact bodyPost_ret (results_av2 rfl _ _ _ _ T rfl HA3.out Tryz.underlying27 info_trace HTL.out) rfl ⟨by rw [HT.out, HC.out, if_neg HZ2.out]; rfl, by rw [HW3.out]; exact setRow_below HBW2.out (Nat.le_refl _) _⟩

    have HO := hid (show hexOut s = .tuple #[Sv b, .int .i64 0] by unfold hexOut; rw [hd]; rfl)
    have HT := hid (show traceT s = zb 16 by unfold traceT; rw [hd]; simp only []; rw [if_neg (by omega)])
    have HC := hid (show traceC s = 3 by unfold traceC; rw [hd]; simp only []; rw [if_neg (by omega)])
    have HZ := hid hz
    have l1 : ((s.length : Int) != 32) = true := by rw [bne_iff_ne]; omega
    have l2 : ((s.length : Int) != 16) = true := by rw [bne_iff_ne]; omega
    clear hd hz hbl0
    go_enter Tryz.func89, Tryz.ntmps89
    go_wp2_with fail
    refine (hread_any s _ hs).mono ?_; rintro e w1 ⟨rfl, hb1⟩
    rw [HO.out]
    obtain ⟨hA, hB, z0, z1, hbw⟩ := box2 hb1
    have HA : Hid (Blk w1 w.heap.size 27 (b8s (zb 16)).toArray) := hA
    have HB : Hid (Blk w1 (w.heap.size + 1) 27 (b8s (zb 16)).toArray) := hB
    have HBW := hid hbw
    clear hA hB hbw hb1
    go_wp2_with (first
      | (refine wpList_load_av rfl 27 (.tmp 4) rfl (w.heap.size + 1) 16 (zb 16) _ rfl HB.out Tryz.underlying27 info_trace HZ.out ?_)
      | (refine wpList_store_av rfl 27 (.tmp 2) (.tmp 23) rfl w.heap.size 16 (zb 16) (zb 16) _ rfl rfl HA.out info_trace HZ.out HZ.out ?_; intro w2 hw2 hA2; have HA2 := hid hA2; have HW2 := hid hw2; clear hw2 hA2))
    exact bodyPost_ret (results_av2 rfl _ _ _ _ (zb 16) rfl HA2.out Tryz.underlying27 info_trace HZ.out) rfl ⟨by rw [HT.out, HC.out]; rfl, by rw [HW2.out]; exact setRow_below HBW.out (Nat.le_refl _) _⟩
/-- A span's name of digits: its bytes, and the code. -/
def spanT (s : List UInt8) : List UInt8 := match hexDec s with
  | some b => if s.length = 16 then b else zb 8
  | none => zb 8
def spanC (s : List UInt8) : Int := match hexDec s with
  | some b => if s.length = 16 then (if b = zb 8 then 10 else 0) else 3
  | none => 3
theorem spanT_length (s : List UInt8) : (spanT s).length = 8 := by
  unfold spanT
  split
  · rename_i b h
    have := hexDec_length s b h
    split
    · omega
    · simp
  · simp
theorem copied_all (b : List UInt8) (hb : b.length = 8) : List.take 0 (zb 8) ++ b ++ List.drop (0 + b.length) (zb 8) = b := by
  rw [hb]; simp [zb]
set_option maxRecDepth 100000 in
set_option maxHeartbeats 1000000 in
theorem readspan_any (s : List UInt8) (w : World) (hs : s.length ≤ 140737488355328) :
    Calls Tryz.prog 85 #[Sv s] w fun e w' => e = .returned (.tuple #[Av (spanT s), .int .i64 (spanC s)]) ∧ Below w.heap.size w w' := by
  have hz := zb_length 8
  cases hd : hexDec s with
  | none =>
    have HO := hid (show hexOut s = .tuple #[Sv [], .int .i64 3] by unfold hexOut; rw [hd]; rfl)
    have HT := hid (show spanT s = zb 8 by unfold spanT; rw [hd])
    have HC := hid (show spanC s = 3 by unfold spanC; rw [hd])
    have HZ := hid hz
    clear hd hz
    go_enter Tryz.func85, Tryz.ntmps85
    go_wp2_with fail
    refine (hread_any s _ hs).mono ?_; rintro e w1 ⟨rfl, hb1⟩
    rw [HO.out]
    obtain ⟨hA, hB, z0, z1, hbw⟩ := box2 hb1
    have HA : Hid (Blk w1 w.heap.size 29 (b8s (zb 8)).toArray) := hA
    have HB : Hid (Blk w1 (w.heap.size + 1) 29 (b8s (zb 8)).toArray) := hB
    have HBW := hid hbw
    clear hA hB hbw hb1
    go_wp2_with (first
      | (refine wpList_load_av rfl 29 (.tmp 4) rfl (w.heap.size + 1) 8 (zb 8) _ rfl HB.out Tryz.underlying29 info_span HZ.out ?_)
      | (refine wpList_store_av rfl 29 (.tmp 2) (.tmp 19) rfl w.heap.size 8 (zb 8) (zb 8) _ rfl rfl HA.out info_span HZ.out HZ.out ?_; intro w2 hw2 hA2; have HA2 := hid hA2; have HW2 := hid hw2; clear hw2 hA2))
    exact bodyPost_ret (results_av2 rfl _ _ _ _ (zb 8) rfl HA2.out Tryz.underlying29 info_span HZ.out) rfl ⟨by rw [HT.out, HC.out]; rfl, by rw [HW2.out]; exact setRow_below HBW.out (Nat.le_refl _) _⟩
  | some b =>
    have hbl0 := hexDec_length s b hd
    have HO := hid (show hexOut s = .tuple #[Sv b, .int .i64 0] by unfold hexOut; rw [hd]; rfl)
    have HZ := hid hz
    by_cases h16 : s.length = 16
    · have hbl : b.length = 8 := by omega
      have HT := hid (show spanT s = b by unfold spanT; rw [hd]; simp only []; rw [if_pos h16])
      have HC := hid (show spanC s = if b = zb 8 then 10 else 0 by unfold spanC; rw [hd]; simp only []; rw [if_pos h16])
      have hsl := fun W => run_slice_all_arr (t := 29) (n := 8) Tryz.underlying29 (w.heap.size + 1) W
      have heq := fun W => run_eq_z8 W b hbl
      have HBL := hid hbl
      have l2 : ((s.length : Int) != 16) = false := by rw [h16]; rfl
      clear hd hz hbl hbl0 h16
      by_cases hz : b = zb 8
      · have he : (b == zb 8) = true := by simpa using hz
        have HZ2 := hid hz
        clear hz
        go_enter Tryz.func85, Tryz.ntmps85
        go_wp2_with fail
        refine (hread_any s _ hs).mono ?_; rintro e w1 ⟨rfl, hb1⟩
        rw [HO.out]
        obtain ⟨hA, hB, z0, z1, hbw⟩ := box2 hb1
        have HA : Hid (Blk w1 w.heap.size 29 (b8s (zb 8)).toArray) := hA
        have HB : Hid (Blk w1 (w.heap.size + 1) 29 (b8s (zb 8)).toArray) := hB
        have HBW := hid hbw
        clear hA hB hbw hb1
        go_wp2_with (first
          | (refine wpList_load_av rfl 29 (.tmp 4) rfl (w.heap.size + 1) 8 b _ rfl HB2.out Tryz.underlying29 info_span HBL.out ?_)
          | (refine wpList_copy_str rfl (.tmp 20) (.tmp 21) rfl (w.heap.size + 1) 0 8 8 _ (zb 8) b rfl rfl HB.out (by rw [HBL.out]; omega) (by rw [HBL.out, HZ.out]; omega) ?_; intro w2 cs2 hw2 hB2; have HB2 : Hid (Blk w2 (w.heap.size + 1) 29 (b8s b).toArray) := (by rw [copied_all b HBL.out] at hB2; exact hB2); have HA2 : Hid (Blk w2 w.heap.size 29 (b8s (zb 8)).toArray) := (by rw [hw2]; exact setRow_far HA.out (by omega)); have HBW2 : Hid (Below w.heap.size w w2) := (by rw [hw2]; exact setRow_below HBW.out (by omega) _); clear hw2 hB2)
          | (refine wpList_store_av rfl 29 (.tmp 2) (.tmp 26) rfl w.heap.size 8 b (zb 8) _ rfl rfl HA2.out info_span HBL.out HZ.out ?_; intro w3 hw3 hA3; have HA3 := hid hA3; have HW3 := hid hw3; clear hw3 hA3))
        exact bodyPost_ret (results_av2 rfl _ _ _ _ b rfl HA3.out Tryz.underlying29 info_span HBL.out) rfl ⟨by rw [HT.out, HC.out, if_pos HZ2.out]; rfl, by rw [HW3.out]; exact setRow_below HBW2.out (Nat.le_refl _) _⟩
      · have he : (b == zb 8) = false := by simpa using hz
        have HZ2 := hid hz
        clear hz
        go_enter Tryz.func85, Tryz.ntmps85
        go_wp2_with fail
        refine (hread_any s _ hs).mono ?_; rintro e w1 ⟨rfl, hb1⟩
        rw [HO.out]
        obtain ⟨hA, hB, z0, z1, hbw⟩ := box2 hb1
        have HA : Hid (Blk w1 w.heap.size 29 (b8s (zb 8)).toArray) := hA
        have HB : Hid (Blk w1 (w.heap.size + 1) 29 (b8s (zb 8)).toArray) := hB
        have HBW := hid hbw
        clear hA hB hbw hb1
        go_wp2_with (first
          | (refine wpList_load_av rfl 29 (.tmp 4) rfl (w.heap.size + 1) 8 b _ rfl HB2.out Tryz.underlying29 info_span HBL.out ?_)
          | (refine wpList_copy_str rfl (.tmp 20) (.tmp 21) rfl (w.heap.size + 1) 0 8 8 _ (zb 8) b rfl rfl HB.out (by rw [HBL.out]; omega) (by rw [HBL.out, HZ.out]; omega) ?_; intro w2 cs2 hw2 hB2; have HB2 : Hid (Blk w2 (w.heap.size + 1) 29 (b8s b).toArray) := (by rw [copied_all b HBL.out] at hB2; exact hB2); have HA2 : Hid (Blk w2 w.heap.size 29 (b8s (zb 8)).toArray) := (by rw [hw2]; exact setRow_far HA.out (by omega)); have HBW2 : Hid (Below w.heap.size w w2) := (by rw [hw2]; exact setRow_below HBW.out (by omega) _); clear hw2 hB2)
          | (refine wpList_store_av rfl 29 (.tmp 2) (.tmp 27) rfl w.heap.size 8 b (zb 8) _ rfl rfl HA2.out info_span HBL.out HZ.out ?_; intro w3 hw3 hA3; have HA3 := hid hA3; have HW3 := hid hw3; clear hw3 hA3))
        exact bodyPost_ret (results_av2 rfl _ _ _ _ b rfl HA3.out Tryz.underlying29 info_span HBL.out) rfl ⟨by rw [HT.out, HC.out, if_neg HZ2.out]; rfl, by rw [HW3.out]; exact setRow_below HBW2.out (Nat.le_refl _) _⟩
    have HT := hid (show spanT s = zb 8 by unfold spanT; rw [hd]; simp only []; rw [if_neg h16])
    have HC := hid (show spanC s = 3 by unfold spanC; rw [hd]; simp only []; rw [if_neg h16])
    have l2 : ((s.length : Int) != 16) = true := by rw [bne_iff_ne]; omega
    clear hd hz hbl0 h16
    go_enter Tryz.func85, Tryz.ntmps85
    go_wp2_with fail
    refine (hread_any s _ hs).mono ?_; rintro e w1 ⟨rfl, hb1⟩
    rw [HO.out]
    obtain ⟨hA, hB, z0, z1, hbw⟩ := box2 hb1
    have HA : Hid (Blk w1 w.heap.size 29 (b8s (zb 8)).toArray) := hA
    have HB : Hid (Blk w1 (w.heap.size + 1) 29 (b8s (zb 8)).toArray) := hB
    have HBW := hid hbw
    clear hA hB hbw hb1
    go_wp2_with (first
      | (refine wpList_load_av rfl 29 (.tmp 4) rfl (w.heap.size + 1) 8 (zb 8) _ rfl HB.out Tryz.underlying29 info_span HZ.out ?_)
      | (refine wpList_store_av rfl 29 (.tmp 2) (.tmp 19) rfl w.heap.size 8 (zb 8) (zb 8) _ rfl rfl HA.out info_span HZ.out HZ.out ?_; intro w2 hw2 hA2; have HA2 := hid hA2; have HW2 := hid hw2; clear hw2 hA2))
    exact bodyPost_ret (results_av2 rfl _ _ _ _ (zb 8) rfl HA2.out Tryz.underlying29 info_span HZ.out) rfl ⟨by rw [HT.out, HC.out]; rfl, by rw [HW2.out]; exact setRow_below HBW.out (Nat.le_refl _) _⟩
end Go.Proofs.YtgfdmdikiickpaaGreatDoor

/-! PWord -/
namespace Go.Proofs.YtgfdmdikiickpaaGreatDoor
open Go.RowKit

theorem pow_add_64 (m k : Nat) (h : m + k = 64) : (2 : Int) ^ m * 2 ^ k = 18446744073709551616 := by
  rw [← Int.pow_add, h]; rfl
theorem pow_pos' (m : Nat) : (0 : Int) < 2 ^ m := Int.pow_pos (by omega)
def wideV (u : Int) (b : Nat) : Int := if u % 2 ^ b < 2 ^ (b - 1) then u % 2 ^ b else u % 2 ^ b - 2 ^ b
theorem wide_core (u P M K : Int) (hP : 0 < P) (hM : M = 2 * P) (hK : 0 < K) (hMK : M * K = 18446744073709551616) :
    ((u * K) % 18446744073709551616 + 9223372036854775808) % 18446744073709551616 - 9223372036854775808 = K * (if u % M < P then u % M else u % M - M) := by
  have hPK : P * K = 9223372036854775808 := by
    have : 2 * (P * K) = 18446744073709551616 := by rw [← hMK, hM, Int.mul_assoc]
    omega
  have r0 := Int.emod_nonneg u (show M ≠ 0 by omega)
  have r1 := Int.emod_lt_of_pos u (show 0 < M by omega)
  have e1 : (u * K) % 18446744073709551616 = K * (u % M) := by
    rw [← hMK, Int.mul_comm u K, Int.mul_comm M K, Int.mul_emod_mul_of_pos _ _ hK]
  rw [e1, ← hPK, ← hMK, Int.mul_comm P K, Int.mul_comm M K, ← Int.mul_add, Int.mul_emod_mul_of_pos _ _ hK, ← Int.mul_sub]
  congr 1
  split
  · rw [Int.emod_eq_of_lt (by omega) (by omega)]; omega
  · have : (u % M + P) % M = u % M + P - M := by
      have e := Int.add_emod_right (u % M + P - M) M
      rw [show u % M + P - M + M = u % M + P by omega] at e
      rw [e, Int.emod_eq_of_lt (by omega) (by omega)]
    rw [this]; omega
theorem wide_math (u : Int) (b : Nat) (h0 : 1 ≤ b) (h1 : b ≤ 64) :
    (((u * 2 ^ (64 - b)) % 18446744073709551616 + 9223372036854775808) % 18446744073709551616 - 9223372036854775808) / 2 ^ (64 - b) = wideV u b := by
  have hM : (2 : Int) ^ b = 2 * 2 ^ (b - 1) := by
    obtain ⟨m, rfl⟩ : ∃ m, b = m + 1 := ⟨b - 1, by omega⟩
    rw [Int.pow_succ]; simp [Int.mul_comm]
  have := wide_core u (2 ^ (b - 1)) (2 ^ b) (2 ^ (64 - b)) (pow_pos' _) hM (pow_pos' _) (pow_add_64 b (64 - b) (by omega))
  rw [this, Int.mul_ediv_cancel_left _ (by have := pow_pos' (64 - b); omega)]
  rfl
theorem mask_math (b : Nat) (h1 : b ≤ 64) : (18446744073709551615 : Int) / 2 ^ (64 - b) = 2 ^ b - 1 := by
  have h := pow_add_64 b (64 - b) (by omega)
  have hK := pow_pos' (64 - b)
  have e : (18446744073709551615 : Int) = (2 ^ (64 - b) - 1) + 2 ^ (64 - b) * (2 ^ b - 1) := by
    rw [Int.mul_sub, Int.mul_comm _ (2 ^ b), h]; omega
  rw [e, Int.add_mul_ediv_left _ _ (by omega), Int.ediv_eq_zero_of_lt (by omega) (by omega)]
  omega

theorem and_mask (x : Int) (b : Nat) (h0 : 0 ≤ x) (h1 : x < 18446744073709551616) (hb : b ≤ 64) : bits .and .u64 x (2 ^ b - 1) = x % 2 ^ b := by
  have hp := pow_pos' b
  have hle : (2 : Int) ^ b ≤ 18446744073709551616 := by
    have := pow_add_64 b (64 - b) (by omega)
    have hk := pow_pos' (64 - b)
    have : (2 : Int) ^ b * 1 ≤ 2 ^ b * 2 ^ (64 - b) := Int.mul_le_mul_of_nonneg_left (by omega) (by omega)
    omega
  rw [u64_and x _ h0 h1 (by omega) (by omega)]
  have e : ((2 : Int) ^ b - 1).toNat = 2 ^ b - 1 := by
    have : ((2 ^ b : Nat) : Int) = (2 : Int) ^ b := by simp
    omega
  rw [e, Nat.and_two_pow_sub_one_eq_mod]
  obtain ⟨m, rfl⟩ := Int.eq_ofNat_of_zero_le h0
  simp
def fitOk (n : Int) (b : Nat) : Bool := decide (-2 ^ (b - 1) ≤ n ∧ n < 2 ^ (b - 1))
theorem fit_top (n : Int) (b : Nat) : fitOk n b = true ↔ (n / 2 ^ (b - 1) = 0 ∨ n / 2 ^ (b - 1) = -1) := by
  have hp := pow_pos' (b - 1)
  simp only [fitOk, decide_eq_true_eq]
  generalize (2 : Int) ^ (b - 1) = P at hp ⊢
  have h1 := Int.mul_ediv_add_emod n P
  have h2 := Int.emod_nonneg n (show P ≠ 0 by omega)
  have h3 := Int.emod_lt_of_pos n hp
  constructor
  · intro ⟨a, c⟩
    by_cases hn : 0 ≤ n
    · exact .inl (Int.ediv_eq_zero_of_lt hn c)
    · refine .inr ?_
      have e : n = (n + P) + P * (-1) := by omega
      rw [e, Int.add_mul_ediv_left _ _ (by omega), Int.ediv_eq_zero_of_lt (by omega) (by omega)]
      omega
  · rintro (h | h) <;> rw [h] at h1 <;> omega
theorem fit_wide (n : Int) (b : Nat) (h0 : 1 ≤ b) : wideV (n % 2 ^ b) b = n ↔ fitOk n b = true := by
  have hM : (2 : Int) ^ b = 2 * 2 ^ (b - 1) := by
    obtain ⟨m, rfl⟩ : ∃ m, b = m + 1 := ⟨b - 1, by omega⟩
    rw [Int.pow_succ]; simp [Int.mul_comm]
  have hp := pow_pos' (b - 1)
  unfold wideV fitOk
  rw [Int.emod_emod_of_dvd n (Int.dvd_refl _), hM]
  generalize (2 : Int) ^ (b - 1) = P at hp ⊢
  simp only [decide_eq_true_eq]
  have h2 := Int.emod_nonneg n (show 2 * P ≠ 0 by omega)
  have h3 := Int.emod_lt_of_pos n (show 0 < 2 * P by omega)
  constructor
  · intro h; split at h <;> omega
  · intro ⟨a, c⟩
    by_cases hn : 0 ≤ n
    · rw [Int.emod_eq_of_lt hn (by omega), if_pos c]
    · have e : n % (2 * P) = n + 2 * P := by
        rw [← Int.add_emod_right, Int.emod_eq_of_lt (by omega) (by omega)]
      rw [e, if_neg (by omega)]; omega
theorem mod_mod_64 (n : Int) (b : Nat) (hb : b ≤ 64) : n % 18446744073709551616 % 2 ^ b = n % 2 ^ b := by
  rw [← pow_add_64 b (64 - b) (by omega)]
  exact Int.emod_emod_of_dvd n (Int.dvd_mul_right _ _)
theorem wideV_mod (n : Int) (b : Nat) : wideV (n % 2 ^ b) b = wideV n b := by
  unfold wideV
  rw [Int.emod_emod_of_dvd n (Int.dvd_refl _)]
/-- A whole number folded. -/
def zigV (n : Int) : Int := if n < 0 then -2 * n - 1 else 2 * n
def zagV (u : Int) : Int := if u % 2 = 1 then -(u / 2) - 1 else u / 2
theorem zag_zig (n : Int) : zagV (zigV n) = n := by unfold zagV zigV; split <;> split <;> omega
theorem zig_zag (u : Int) (h : 0 ≤ u) : zigV (zagV u) = u := by unfold zagV zigV; split <;> split <;> omega
theorem zigV_bd (n : Int) (h0 : -9223372036854775808 ≤ n) (h1 : n ≤ 9223372036854775807) : 0 ≤ zigV n ∧ zigV n ≤ 18446744073709551615 := by unfold zigV; split <;> omega
theorem zagV_bd (u : Int) (h0 : 0 ≤ u) (h1 : u ≤ 18446744073709551615) : -9223372036854775808 ≤ zagV u ∧ zagV u ≤ 9223372036854775807 := by unfold zagV; split <;> omega
theorem nat_xor_ones (x : Nat) (h : x < 18446744073709551616) : x ^^^ 18446744073709551615 = 18446744073709551615 - x := by
  have e := BitVec.toNat_not (x := BitVec.ofNat 64 x)
  rw [BitVec.not_def, BitVec.toNat_xor, BitVec.toNat_ofNat, BitVec.toNat_allOnes, Nat.mod_eq_of_lt (by simpa using h)] at e
  rw [Nat.xor_comm]
  simpa [Nat.xor_comm] using e
theorem zig_math (n : Int) (h0 : -9223372036854775808 ≤ n) (h1 : n ≤ 9223372036854775807) :
    bits .xor .u64 (IntKind.u64.wrap (IntKind.u64.wrap n * 2)) (IntKind.u64.wrap (n / 9223372036854775808)) = zigV n := by
  simp only [IntKind.wrap_u64]
  by_cases hn : n < 0
  · rw [show n / 9223372036854775808 % 18446744073709551616 = 18446744073709551615 by omega, show n % 18446744073709551616 * 2 % 18446744073709551616 = 2 * n + 18446744073709551616 by omega]
    rw [u64_xor _ _ (by omega) (by omega) (by omega) (by omega)]
    rw [show (18446744073709551615 : Int).toNat = 18446744073709551615 from rfl, nat_xor_ones _ (by omega)]
    simp only [zigV, hn, if_true]; omega
  · rw [show n / 9223372036854775808 % 18446744073709551616 = 0 by omega, show n % 18446744073709551616 * 2 % 18446744073709551616 = 2 * n by omega]
    rw [u64_xor _ _ (by omega) (by omega) (by omega) (by omega)]
    simp [zigV, hn]; omega
theorem i64_xor_m1 (a : Int) (h0 : 0 ≤ a) (h1 : a ≤ 9223372036854775807) : bits .xor .i64 a (-1) = -a - 1 := by
  obtain ⟨m, rfl⟩ := Int.eq_ofNat_of_zero_le h0
  show IntKind.i64.wrap ((BitVec.ofInt 64 (m : Int) ^^^ BitVec.ofInt 64 (-1)).toNat : Int) = _
  rw [BitVec.toNat_xor, ofInt_i64 m (by omega), show (BitVec.ofInt 64 (-1)).toNat = 18446744073709551615 from rfl, nat_xor_ones _ (by omega), IntKind.wrap_i64]
  omega
theorem i64_xor_0 (a : Int) (h0 : 0 ≤ a) (h1 : a ≤ 9223372036854775807) : bits .xor .i64 a 0 = a := by
  obtain ⟨m, rfl⟩ := Int.eq_ofNat_of_zero_le h0
  show IntKind.i64.wrap ((BitVec.ofInt 64 (m : Int) ^^^ BitVec.ofInt 64 0).toNat : Int) = _
  rw [BitVec.toNat_xor, ofInt_i64 m (by omega), show (BitVec.ofInt 64 0).toNat = 0 from rfl, Nat.xor_zero, IntKind.wrap_i64]
  omega
end Go.Proofs.YtgfdmdikiickpaaGreatDoor

/-! PLay -/
namespace Go.Proofs.YtgfdmdikiickpaaGreatDoor
open Go.RowKit

/-- So many bytes of a number, the lowest first. -/
def lowB (u : Int) : Nat → List UInt8
  | 0 => []
  | n + 1 => bt (u % 256) :: lowB (u / 256) n
theorem lowB_length (u : Int) (n : Nat) : (lowB u n).length = n := by
  induction n generalizing u with
  | zero => rfl
  | succ n ih => simp [lowB, ih]
theorem lowB_snoc (u : Int) (n : Nat) : lowB u (n + 1) = lowB u n ++ [bt (u / 256 ^ n % 256)] := by
  induction n generalizing u with
  | zero => simp [lowB]
  | succ n ih =>
    rw [show lowB u (n + 1 + 1) = bt (u % 256) :: lowB (u / 256) (n + 1) from rfl, ih]
    have e : u / 256 / 256 ^ n = u / 256 ^ (n + 1) := by
      rw [Int.ediv_ediv_of_nonneg (by omega), Int.pow_succ, Int.mul_comm]
    rw [e]; rfl
theorem lowB_get (u : Int) (n k : Nat) (h : k < n) : (lowB u n)[k]'(by rw [lowB_length]; exact h) = bt (u / 256 ^ k % 256) := by
  induction n generalizing k with
  | zero => omega
  | succ n ih =>
    have e := lowB_snoc u n
    by_cases hk : k < n
    · have := ih k hk
      simp only [e]
      rw [List.getElem_append_left (by rw [lowB_length]; exact hk)]
      exact this
    · obtain rfl : k = n := by omega
      simp only [e]
      rw [List.getElem_append_right (by rw [lowB_length]; omega)]
      simp [lowB_length]
def highB (u : Int) (n : Nat) : List UInt8 := (lowB u n).reverse
theorem highB_length (u : Int) (n : Nat) : (highB u n).length = n := by simp [highB, lowB_length]
theorem highB_take (u : Int) (n k : Nat) (h : k < n) : (highB u n).take (k + 1) = (highB u n).take k ++ [bt (u / 256 ^ (n - 1 - k) % 256)] := by
  have hl : k < (highB u n).length := by rw [highB_length]; exact h
  rw [List.take_succ_eq_append_getElem hl]
  congr 2
  simp only [highB, List.getElem_reverse]
  rw [← lowB_get u n (n - 1 - k) (by omega)]
  congr 1
  rw [lowB_length]
theorem pow_256 (k : Nat) : (256 : Int) ^ k = 2 ^ (8 * k) := by
  rw [Int.pow_mul]; rfl
/-- The number of bytes, the lowest first, and the highest first. -/
def valL : List UInt8 → Int
  | [] => 0
  | b :: r => bi b + 256 * valL r
def valH (l : List UInt8) : Int := valL l.reverse
theorem valL_nonneg (l : List UInt8) : 0 ≤ valL l := by
  induction l with
  | nil => simp [valL]
  | cons b r ih => have := bi_lt b; simp only [valL]; omega
theorem valL_lt (l : List UInt8) : valL l < 256 ^ l.length := by
  induction l with
  | nil => simp [valL]
  | cons b r ih => have := bi_lt b; simp only [valL, List.length_cons, Int.pow_succ]; omega
theorem valL_lt_le (l : List UInt8) (n : Nat) (h : l.length ≤ n) : valL l < 256 ^ n := by
  have h1 := valL_lt l
  have h2 : (256 : Nat) ^ l.length ≤ 256 ^ n := Nat.pow_le_pow_right (by omega) h
  have h3 : ((256 ^ l.length : Nat) : Int) = (256 : Int) ^ l.length := by simp
  have h4 : ((256 ^ n : Nat) : Int) = (256 : Int) ^ n := by simp
  omega
theorem valL_append (a b : List UInt8) : valL (a ++ b) = valL a + 256 ^ a.length * valL b := by
  induction a with
  | nil => simp [valL]
  | cons x r ih =>
    simp only [List.cons_append, valL, ih, List.length_cons, Int.pow_succ]
    rw [Int.mul_add, ← Int.mul_assoc, Int.mul_comm 256 (256 ^ r.length), Int.add_assoc]
theorem valL_low (u : Int) (n : Nat) (h0 : 0 ≤ u) (h1 : u < 256 ^ n) : valL (lowB u n) = u := by
  induction n generalizing u with
  | zero => simp [lowB, valL] at *; omega
  | succ n ih =>
    simp only [lowB, valL]
    rw [bi_bt _ (by omega) (by omega), ih (u / 256) (by omega) (by rw [Int.pow_succ] at h1; omega)]
    omega
theorem valH_high (u : Int) (n : Nat) (h0 : 0 ≤ u) (h1 : u < 256 ^ n) : valH (highB u n) = u := by
  simp only [valH, highB, List.reverse_reverse]
  exact valL_low u n h0 h1
theorem valL_drop (l : List UInt8) (k : Nat) (h : k < l.length) : valL (l.drop k) = byteAt l k + 256 * valL (l.drop (k + 1)) := by
  rw [List.drop_eq_getElem_cons h, byteAt_getElem l k h]; rfl
theorem valH_take (l : List UInt8) (k : Nat) (h : k < l.length) : valH (l.take (k + 1)) = 256 * valH (l.take k) + byteAt l k := by
  rw [List.take_succ_eq_append_getElem h, byteAt_getElem l k h]
  simp only [valH, List.reverse_append, List.reverse_cons, List.reverse_nil, List.nil_append, List.cons_append, valL]
  omega
theorem nat_or256 (a b : Nat) (hb : b ≤ 255) : a * 256 ||| b = a * 256 + b := by
  have := Nat.shiftLeft_add_eq_or_of_lt (b := b) (i := 8) (by omega) a
  rw [Nat.shiftLeft_eq] at this
  exact this.symm
theorem u64_or256 (a b : Int) (h0 : 0 ≤ a) (h1 : a ≤ 72057594037927935) (g0 : 0 ≤ b) (g1 : b ≤ 255) : bits .or .u64 (a * 256) b = a * 256 + b := by
  obtain ⟨m, rfl⟩ := Int.eq_ofNat_of_zero_le h0
  obtain ⟨n, rfl⟩ := Int.eq_ofNat_of_zero_le g0
  have := u64_or_nat (m * 256) n (by omega) (by omega)
  rw [nat_or256 m n (by omega), Int.natCast_add, Int.natCast_mul] at this
  exact this
theorem u32_or256 (a b : Int) (h0 : 0 ≤ a) (h1 : a ≤ 16777215) (g0 : 0 ≤ b) (g1 : b ≤ 255) : bits .or .u32 (a * 256) b = a * 256 + b := by
  obtain ⟨m, rfl⟩ := Int.eq_ofNat_of_zero_le h0
  obtain ⟨n, rfl⟩ := Int.eq_ofNat_of_zero_le g0
  have := u32_or_nat (m * 256) n (by omega) (by omega)
  rw [nat_or256 m n (by omega), Int.natCast_add, Int.natCast_mul] at this
  exact this
end Go.Proofs.YtgfdmdikiickpaaGreatDoor

/-! IdentRef -/
namespace Go.Proofs.YtgfdmdikiickpaaGreatDoor
open Go.RowKit

theorem zero_all {b : List UInt8} {n : Nat} (hl : b.length = n) (h : ∀ j, j < n → byteAt b j = 0) : b = zb n := by
  apply List.ext_getElem
  · rw [hl, zb_length]
  · intro j h1 h2
    have := h j (by omega)
    rw [byteAt_getElem b j h1] at this
    have e : b[j] = 0 := by rw [← bt_bi b[j], this]; rfl
    rw [e]; simp [zb]
theorem zero_not {b : List UInt8} {n k : Nat} (hk : k < n) (h : byteAt b k ≠ 0) : b ≠ zb n := by
  intro e; subst e
  apply h
  rw [byteAt_getElem _ k (by simpa using hk)]
  simp [zb, bi]
def bytesB (s : List UInt8) (n : Nat) : List UInt8 := match hexDec s with
  | some b => if b.length = n ∧ b ≠ zb n then b else []
  | none => []
def bytesC (s : List UInt8) (n : Nat) : Int := match hexDec s with
  | some b => if b.length = n then (if b = zb n then 10 else 0) else 3
  | none => 3
set_option maxRecDepth 100000 in
set_option maxHeartbeats 1000000 in
theorem rbytes_any (s : List UInt8) (n : Nat) (w : World) (hs : s.length ≤ 140737488355328) (hn : n ≤ 100) :
    Calls Tryz.prog 103 #[Sv s, .int .i64 (n : Int)] w fun e w' => e = .returned (.tuple #[Sv (bytesB s n), .int .i64 (bytesC s n)]) ∧ Below w.heap.size w w' := by
  cases hd : hexDec s with
  | none =>
    have HO := hid (show hexOut s = .tuple #[Sv [], .int .i64 3] by unfold hexOut; rw [hd]; rfl)
    have HB := hid (show bytesB s n = [] by unfold bytesB; rw [hd])
    have HC := hid (show bytesC s n = 3 by unfold bytesC; rw [hd])
    clear hd
    go_enter Tryz.func103, Tryz.ntmps103
    go_wp2_with fail
    refine (rread_any s _ hs).mono ?_; rintro e w1 ⟨rfl, hb1⟩
    rw [HO.out]
    go_wp2_with fail
    go_ret2
    exact ⟨by rw [HB.out, HC.out]; rfl, hb1⟩
  | some b =>
    have HO := hid (show hexOut s = .tuple #[Sv b, .int .i64 0] by unfold hexOut; rw [hd]; rfl)
    have hl2 := hexDec_length s b hd
    have hbl : b.length ≤ 140737488355328 := by omega
    by_cases hl : b.length = n
    case neg =>
      have HB := hid (show bytesB s n = [] by unfold bytesB; rw [hd]; simp only []; rw [if_neg (fun h => hl h.1)])
      have HC := hid (show bytesC s n = 3 by unfold bytesC; rw [hd]; simp only []; rw [if_neg hl])
      have h1 : ((b.length : Int) != (n : Int)) = true := by rw [bne_iff_ne]; omega
      clear hd hl hl2
      go_enter Tryz.func103, Tryz.ntmps103
      go_wp2_with fail
      refine (rread_any s _ hs).mono ?_; rintro e w1 ⟨rfl, hb1⟩
      rw [HO.out]
      go_wp2_with fail
      go_ret2
      exact ⟨by rw [HB.out, HC.out]; rfl, hb1⟩
    case pos =>
      have h1 : ((b.length : Int) != (n : Int)) = false := by rw [bne_eq_false_iff_eq]; omega
      have HL := hid hl
      have HD := hid hd
      clear hd hl hl2
      go_enter Tryz.func103, Tryz.ntmps103
      go_wp2_with fail
      refine (rread_any s _ hs).mono ?_; rintro e w1 ⟨rfl, hb1⟩
      rw [HO.out]
      go_wp2_with fail
      go_loop [8] (fun i => ∃ k : Nat, k ≤ n ∧ i = .int .i64 (k : Int) ∧ Hid (∀ j, j < k → byteAt b j = 0)) (fun i => n - (intOf i).toNat)
      case atStart => exact ⟨0, by omega, rfl, fun j hj => by omega⟩
      case round =>
        obtain ⟨k, hk, rfl, HR⟩ := hrel
        by_cases hlt : k < n
        · have hkl : k < b.length := by rw [HL.out]; exact hlt
          have n1 := byteAt_lo b k
          have n2 := byteAt_hi b k
          by_cases hz : byteAt b k = 0
          · have hz1 : (byteAt b k != 0) = false := by rw [bne_eq_false_iff_eq]; exact hz
            have HZ := hid hz
            clear hz
            go_wp2
            go_round
            case rel =>
              refine ⟨k + 1, by omega, by go_num, fun j hj => ?_⟩
              by_cases e : j = k
              · subst e; exact HZ.out
              · exact HR.out j (by omega)
            case measure => simp [intOf] <;> omega
          · have hz1 : (byteAt b k != 0) = true := by rw [bne_iff_ne]; exact hz
            have hne := zero_not hlt hz
            have HB := hid (show bytesB s n = b by unfold bytesB; rw [HD.out]; simp only []; rw [if_pos ⟨HL.out, hne⟩])
            have HC := hid (show bytesC s n = 0 by unfold bytesC; rw [HD.out]; simp only []; rw [if_pos HL.out, if_neg hne])
            clear hz hne
            go_wp2
            go_ret2
            exact ⟨by rw [HB.out, HC.out]; rfl, hb1⟩
        · have hz := zero_all HL.out (fun j hj => HR.out j (by omega))
          have HB := hid (show bytesB s n = [] by unfold bytesB; rw [HD.out]; simp only []; rw [if_neg (fun h => h.2 hz)])
          have HC := hid (show bytesC s n = 10 by unfold bytesC; rw [HD.out]; simp only []; rw [if_pos HL.out, if_pos hz])
          clear hz
          go_wp2
          go_ret2
          exact ⟨by rw [HB.out, HC.out]; rfl, hb1⟩
theorem arr_step (b : List UInt8) (n k : Nat) (hk : k < b.length) (hn : b.length ≤ n) : (b.take k ++ zb (n - k)).set k (bt (byteAt b k)) = b.take (k + 1) ++ zb (n - (k + 1)) := by
  have e : b.take (k + 1) = b.take k ++ [bt (byteAt b k)] := by rw [List.take_succ_eq_append_getElem hk, byteAt_getElem b k hk, bt_bi]
  have z : zb (n - k) = 0 :: zb (n - (k + 1)) := by unfold zb; rw [show n - k = (n - (k + 1)) + 1 by omega]; rfl
  have hl : (b.take k).length = k := by simp; omega
  rw [e, z, List.set_append_right _ _ (by omega), hl, Nat.sub_self]
  simp
set_option maxRecDepth 100000 in
set_option maxHeartbeats 1000000 in
theorem rtrace_any (b : List UInt8) (w : World) (hb : b.length ≤ 16) :
    Calls Tryz.prog 104 #[Sv b] w fun e w' => e = .returned (Av (b ++ zb (16 - b.length))) ∧ Below w.heap.size w w' := by
  obtain ⟨w0, hw0⟩ : ∃ w0, w0 = (w.alloc (.cells #[.int .u8 0, .int .u8 0, .int .u8 0, .int .u8 0, .int .u8 0, .int .u8 0, .int .u8 0, .int .u8 0, .int .u8 0, .int .u8 0, .int .u8 0, .int .u8 0, .int .u8 0, .int .u8 0, .int .u8 0, .int .u8 0] 27)).alloc (.cells #[.int .u8 0, .int .u8 0, .int .u8 0, .int .u8 0, .int .u8 0, .int .u8 0, .int .u8 0, .int .u8 0, .int .u8 0, .int .u8 0, .int .u8 0, .int .u8 0, .int .u8 0, .int .u8 0, .int .u8 0, .int .u8 0] 27) := ⟨_, rfl⟩
  obtain ⟨hA, hB, z0, z1, hbw⟩ := box2 (w := w) (w1 := w0) (A := #[.int .u8 0, .int .u8 0, .int .u8 0, .int .u8 0, .int .u8 0, .int .u8 0, .int .u8 0, .int .u8 0, .int .u8 0, .int .u8 0, .int .u8 0, .int .u8 0, .int .u8 0, .int .u8 0, .int .u8 0, .int .u8 0]) (B := #[.int .u8 0, .int .u8 0, .int .u8 0, .int .u8 0, .int .u8 0, .int .u8 0, .int .u8 0, .int .u8 0, .int .u8 0, .int .u8 0, .int .u8 0, .int .u8 0, .int .u8 0, .int .u8 0, .int .u8 0, .int .u8 0]) (tA := 27) (tB := 27) (by rw [hw0]; exact Below.refl _ _)
  have HA : Hid (Blk w0 w.heap.size 27 (b8s (zb 16)).toArray) := hA
  have hrel0 : ∃ k : Nat, k ≤ b.length ∧ Value.int .i64 0 = .int .i64 (k : Int) ∧ Hid (Blk w0 w.heap.size 27 (b8s (zb 16)).toArray ∧ Blk w0 (w.heap.size + 1) 27 (b8s (b.take k ++ zb (16 - k))).toArray ∧ Below w.heap.size w w0) := ⟨0, by omega, rfl, hA, hB, hbw⟩
  have HW0 := hid hw0
  clear hA hB hbw hw0 HA z0 z1
  go_enter Tryz.func104, Tryz.ntmps104
  go_wp2_with fail
  rw [← HW0.out]
  go_loopw [4] (fun i wr => ∃ k : Nat, k ≤ b.length ∧ i = .int .i64 (k : Int) ∧ Hid (Blk wr w.heap.size 27 (b8s (zb 16)).toArray ∧ Blk wr (w.heap.size + 1) 27 (b8s (b.take k ++ zb (16 - k))).toArray ∧ Below w.heap.size w wr)) (fun i _ => b.length - (intOf i).toNat)
  case atStart => exact hrel0
  case round =>
    clear hrel0 HW0
    obtain ⟨k, hk, rfl, HR⟩ := hrel
    by_cases hlt : k < b.length
    · have n1 := byteAt_lo b k
      have n2 := byteAt_hi b k
      have hcell := blk_byte HR.out.2.1 (j := k) (by simp; omega)
      have hfr := HR.out.2.1.frozen k
      have HN : Hid (Blk (wr.setCell ⟨w.heap.size + 1, k, none⟩ (.int .u8 (byteAt b k))) w.heap.size 27 (b8s (zb 16)).toArray ∧ Blk (wr.setCell ⟨w.heap.size + 1, k, none⟩ (.int .u8 (byteAt b k))) (w.heap.size + 1) 27 (b8s (b.take (k + 1) ++ zb (16 - (k + 1)))).toArray ∧ Below w.heap.size w (wr.setCell ⟨w.heap.size + 1, k, none⟩ (.int .u8 (byteAt b k)))) :=
        ⟨Blk.far HR.out.1 (by simp) _, by rw [← arr_step b 16 k hlt hb, ← b8s_set _ _ _ n1 n2]; exact HR.out.2.1.set_ k _, by have h := HR.out.2.2; exact h.setCell (by simp) _⟩
      clear HR
      go_wp2
      go_roundw
      case rel => exact ⟨k + 1, by omega, by go_num, HN⟩
      case measure => simp [intOf] <;> omega
    · have hkl : k = b.length := by omega
      subst hkl
      have HR2 : Hid (Blk wr w.heap.size 27 (b8s (zb 16)).toArray ∧ Blk wr (w.heap.size + 1) 27 (b8s (b ++ zb (16 - b.length))).toArray ∧ Below w.heap.size w wr) := by have h := HR.out; rw [List.take_length] at h; exact h
      have HL := hid (show (b ++ zb (16 - b.length)).length = 16 by simp; omega)
      clear HR
      go_wp2_with (first
        | (refine wpList_load_av rfl 27 (.tmp 3) rfl (w.heap.size + 1) 16 (b ++ zb (16 - b.length)) _ rfl HR2.out.2.1 Tryz.underlying27 info_trace HL.out ?_)
        | (refine wpList_store_av rfl 27 (.tmp 2) (.tmp 20) rfl w.heap.size 16 (b ++ zb (16 - b.length)) (zb 16) _ rfl rfl HR2.out.1 info_trace HL.out (zb_length _) ?_; intro w3 hw3 hA3; have HA3 := hid hA3; have HW3 := hid hw3; clear hw3 hA3))
      exact bodyPost_ret (results_av1 rfl _ _ _ _ _ rfl HA3.out Tryz.underlying27 info_trace HL.out) rfl ⟨rfl, by rw [HW3.out]; exact setRow_below HR2.out.2.2 (Nat.le_refl _) _⟩
set_option maxRecDepth 100000 in
set_option maxHeartbeats 1000000 in
theorem rspan_any (b : List UInt8) (w : World) (hb : b.length ≤ 8) :
    Calls Tryz.prog 105 #[Sv b] w fun e w' => e = .returned (Av (b ++ zb (8 - b.length))) ∧ Below w.heap.size w w' := by
  obtain ⟨w0, hw0⟩ : ∃ w0, w0 = (w.alloc (.cells #[.int .u8 0, .int .u8 0, .int .u8 0, .int .u8 0, .int .u8 0, .int .u8 0, .int .u8 0, .int .u8 0] 29)).alloc (.cells #[.int .u8 0, .int .u8 0, .int .u8 0, .int .u8 0, .int .u8 0, .int .u8 0, .int .u8 0, .int .u8 0] 29) := ⟨_, rfl⟩
  obtain ⟨hA, hB, z0, z1, hbw⟩ := box2 (w := w) (w1 := w0) (A := #[.int .u8 0, .int .u8 0, .int .u8 0, .int .u8 0, .int .u8 0, .int .u8 0, .int .u8 0, .int .u8 0]) (B := #[.int .u8 0, .int .u8 0, .int .u8 0, .int .u8 0, .int .u8 0, .int .u8 0, .int .u8 0, .int .u8 0]) (tA := 29) (tB := 29) (by rw [hw0]; exact Below.refl _ _)
  have HA : Hid (Blk w0 w.heap.size 29 (b8s (zb 8)).toArray) := hA
  have hrel0 : ∃ k : Nat, k ≤ b.length ∧ Value.int .i64 0 = .int .i64 (k : Int) ∧ Hid (Blk w0 w.heap.size 29 (b8s (zb 8)).toArray ∧ Blk w0 (w.heap.size + 1) 29 (b8s (b.take k ++ zb (8 - k))).toArray ∧ Below w.heap.size w w0) := ⟨0, by omega, rfl, hA, hB, hbw⟩
  have HW0 := hid hw0
  clear hA hB hbw hw0 HA z0 z1
  go_enter Tryz.func105, Tryz.ntmps105
  go_wp2_with fail
  rw [← HW0.out]
  go_loopw [4] (fun i wr => ∃ k : Nat, k ≤ b.length ∧ i = .int .i64 (k : Int) ∧ Hid (Blk wr w.heap.size 29 (b8s (zb 8)).toArray ∧ Blk wr (w.heap.size + 1) 29 (b8s (b.take k ++ zb (8 - k))).toArray ∧ Below w.heap.size w wr)) (fun i _ => b.length - (intOf i).toNat)
  case atStart => exact hrel0
  case round =>
    clear hrel0 HW0
    obtain ⟨k, hk, rfl, HR⟩ := hrel
    by_cases hlt : k < b.length
    · have n1 := byteAt_lo b k
      have n2 := byteAt_hi b k
      have hcell := blk_byte HR.out.2.1 (j := k) (by simp; omega)
      have hfr := HR.out.2.1.frozen k
      have HN : Hid (Blk (wr.setCell ⟨w.heap.size + 1, k, none⟩ (.int .u8 (byteAt b k))) w.heap.size 29 (b8s (zb 8)).toArray ∧ Blk (wr.setCell ⟨w.heap.size + 1, k, none⟩ (.int .u8 (byteAt b k))) (w.heap.size + 1) 29 (b8s (b.take (k + 1) ++ zb (8 - (k + 1)))).toArray ∧ Below w.heap.size w (wr.setCell ⟨w.heap.size + 1, k, none⟩ (.int .u8 (byteAt b k)))) :=
        ⟨Blk.far HR.out.1 (by simp) _, by rw [← arr_step b 8 k hlt hb, ← b8s_set _ _ _ n1 n2]; exact HR.out.2.1.set_ k _, by have h := HR.out.2.2; exact h.setCell (by simp) _⟩
      clear HR
      go_wp2
      go_roundw
      case rel => exact ⟨k + 1, by omega, by go_num, HN⟩
      case measure => simp [intOf] <;> omega
    · have hkl : k = b.length := by omega
      subst hkl
      have HR2 : Hid (Blk wr w.heap.size 29 (b8s (zb 8)).toArray ∧ Blk wr (w.heap.size + 1) 29 (b8s (b ++ zb (8 - b.length))).toArray ∧ Below w.heap.size w wr) := by have h := HR.out; rw [List.take_length] at h; exact h
      have HL := hid (show (b ++ zb (8 - b.length)).length = 8 by simp; omega)
      clear HR
      go_wp2_with (first
        | (refine wpList_load_av rfl 29 (.tmp 3) rfl (w.heap.size + 1) 8 (b ++ zb (8 - b.length)) _ rfl HR2.out.2.1 Tryz.underlying29 info_span HL.out ?_)
        | (refine wpList_store_av rfl 29 (.tmp 2) (.tmp 20) rfl w.heap.size 8 (b ++ zb (8 - b.length)) (zb 8) _ rfl rfl HR2.out.1 info_span HL.out (zb_length _) ?_; intro w3 hw3 hA3; have HA3 := hid hA3; have HW3 := hid hw3; clear hw3 hA3))
      exact bodyPost_ret (results_av1 rfl _ _ _ _ _ rfl HA3.out Tryz.underlying29 info_span HL.out) rfl ⟨rfl, by rw [HW3.out]; exact setRow_below HR2.out.2.2 (Nat.le_refl _) _⟩
/-- A trace's name, as the document reads it. -/
def rep48 : List UInt8 := [48, 48, 48, 48, 48, 48, 48, 48, 48, 48, 48, 48, 48, 48, 48, 48]
theorem hexDec_zeros (s : List UInt8) : hexDec (rep48 ++ s) = (hexDec s).map (zb 8 ++ ·) := by
  have step : ∀ r : List UInt8, hexDec (48 :: 48 :: r) = (hexDec r).map (0 :: ·) := fun r => rfl
  simp only [rep48, List.cons_append, List.nil_append, step]
  cases hexDec s <;> rfl
theorem bytesB_length (s : List UInt8) (n : Nat) : (bytesB s n).length ≤ n := by
  unfold bytesB
  split
  · split
    · rename_i h; omega
    · simp
  · simp
theorem pad_bytes (s : List UInt8) (n : Nat) (_hn : n ≠ 0) : bytesB s n ++ zb (n - (bytesB s n).length) = match hexDec s with | some b => if b.length = n then b else zb n | none => zb n := by
  unfold bytesB
  cases hd : hexDec s with
  | none => simp [zb]
  | some b =>
    simp only []
    by_cases hl : b.length = n
    · by_cases hz : b = zb n
      · rw [if_neg (fun h => h.2 hz), if_pos hl, hz]; simp [zb]
      · rw [if_pos ⟨hl, hz⟩, if_pos hl, hl]; simp [zb]
    · rw [if_neg (fun h => hl h.1), if_neg hl]; simp [zb]
def trS (s : List UInt8) : List UInt8 := if s.length = 16 then rep48 ++ s else s
theorem trace_same (s : List UInt8) : (bytesB (trS s) 16 ++ zb (16 - (bytesB (trS s) 16).length) = traceT s) ∧ bytesC (trS s) 16 = traceC s := by
  rw [pad_bytes _ _ (by omega)]
  unfold traceT traceC bytesC trS
  by_cases h16 : s.length = 16
  · rw [if_pos h16, hexDec_zeros]
    cases hd : hexDec s with
    | none => exact ⟨rfl, rfl⟩
    | some b =>
      have hl := hexDec_length s b hd
      have hb : b.length = 8 := by omega
      simp only [Option.map_some]
      have e : (zb 8 ++ b).length = 16 := by simp [hb]
      have c : s.length = 32 ∨ s.length = 16 := .inr h16
      rw [if_pos e, if_pos e, if_pos c, if_pos c, hb]
      exact ⟨rfl, rfl⟩
  · rw [if_neg h16]
    cases hd : hexDec s with
    | none => exact ⟨rfl, rfl⟩
    | some b =>
      have hl := hexDec_length s b hd
      simp only []
      by_cases h32 : s.length = 32
      · have hb : b.length = 16 := by omega
        have c : s.length = 32 ∨ s.length = 16 := .inl h32
        rw [if_pos hb, if_pos hb, if_pos c, if_pos c, hb]
        exact ⟨rfl, rfl⟩
      · have hb : b.length ≠ 16 := by omega
        rw [if_neg hb, if_neg hb, if_neg (by omega), if_neg (by omega)]
        exact ⟨rfl, rfl⟩
theorem span_same (s : List UInt8) : (bytesB s 8 ++ zb (8 - (bytesB s 8).length) = spanT s) ∧ bytesC s 8 = spanC s := by
  rw [pad_bytes _ _ (by omega)]
  unfold spanT spanC bytesC
  cases hd : hexDec s with
  | none => exact ⟨rfl, rfl⟩
  | some b =>
    have hl := hexDec_length s b hd
    simp only []
    by_cases h16 : s.length = 16
    · have hb : b.length = 8 := by omega
      rw [if_pos hb, if_pos hb, if_pos h16, if_pos h16]
      exact ⟨rfl, rfl⟩
    · have hb : b.length ≠ 8 := by omega
      rw [if_neg hb, if_neg hb, if_neg h16, if_neg h16]
      exact ⟨rfl, rfl⟩
set_option maxRecDepth 100000 in
set_option maxHeartbeats 1000000 in
theorem rreadspan_any (s : List UInt8) (w : World) (hs : s.length ≤ 140737488355328) :
    Calls Tryz.prog 63 #[Sv s] w fun e w' => e = .returned (.tuple #[Av (spanT s), .int .i64 (spanC s)]) ∧ Below w.heap.size w w' := by
  have HS := hid (span_same s)
  have HBL := hid (bytesB_length s 8)
  obtain ⟨w0, hw0⟩ : ∃ w0, w0 = w.alloc (.cells #[.int .u8 0, .int .u8 0, .int .u8 0, .int .u8 0, .int .u8 0, .int .u8 0, .int .u8 0, .int .u8 0] 29) := ⟨_, rfl⟩
  have HW0 := hid hw0
  have hB : Blk w0 w.heap.size 29 (b8s (zb 8)).toArray := by rw [hw0]; exact Blk.new w _ _
  have hbw : Below w.heap.size w w0 := by rw [hw0]; exact ext_alloc w _
  have HB := hid hB
  have HBW := hid hbw
  clear hw0 hB hbw
  go_enter Tryz.func63, Tryz.ntmps63
  go_wp2_with fail
  rw [← HW0.out]
  refine (rbytes_any s 8 _ hs (by omega)).mono ?_; rintro e w1 ⟨rfl, hb1⟩
  go_wp2_with fail
  refine (rspan_any (bytesB s 8) _ HBL.out).mono ?_; rintro e w2 ⟨rfl, hb2⟩
  rw [HS.out.1, HS.out.2]
  have HB2 := hid (HB.out.below (ext_trans hb1 hb2) HB.out.lt)
  have HBW2 := hid (HBW.out.trans ((ext_trans hb1 hb2).mono HBW.out.size))
  have HL := hid (spanT_length s)
  clear hb1 hb2
  go_wp2_with (refine wpList_store_av rfl 29 (.tmp 2) (.tmp 12) rfl w.heap.size 8 (spanT s) (zb 8) _ rfl rfl HB2.out info_span HL.out (zb_length _) ?_; intro w3 hw3 hA3; have HA3 := hid hA3; have HW3 := hid hw3; clear hw3 hA3)
  exact bodyPost_ret (results_av2 rfl _ _ _ _ _ rfl HA3.out Tryz.underlying29 info_span HL.out) rfl ⟨rfl, by rw [HW3.out]; exact setRow_below HBW2.out (Nat.le_refl _) _⟩
set_option maxRecDepth 100000 in
set_option maxHeartbeats 1000000 in
theorem rreadtrace_any (s : List UInt8) (w : World) (hs : s.length ≤ 140737488355328) :
    Calls Tryz.prog 62 #[Sv s] w fun e w' => e = .returned (.tuple #[Av (traceT s), .int .i64 (traceC s)]) ∧ Below w.heap.size w w' := by
  have HS := hid (trace_same s)
  have HBL := hid (bytesB_length (trS s) 16)
  obtain ⟨w0, hw0⟩ : ∃ w0, w0 = w.alloc (.cells #[.int .u8 0, .int .u8 0, .int .u8 0, .int .u8 0, .int .u8 0, .int .u8 0, .int .u8 0, .int .u8 0, .int .u8 0, .int .u8 0, .int .u8 0, .int .u8 0, .int .u8 0, .int .u8 0, .int .u8 0, .int .u8 0] 27) := ⟨_, rfl⟩
  have HW0 := hid hw0
  have hB : Blk w0 w.heap.size 27 (b8s (zb 16)).toArray := by rw [hw0]; exact Blk.new w _ _
  have hbw : Below w.heap.size w w0 := by rw [hw0]; exact ext_alloc w _
  have HB := hid hB
  have HBW := hid hbw
  have HL := hid (traceT_length s)
  clear hw0 hB hbw
  by_cases h16 : s.length = 16
  · have ht : trS s = rep48 ++ s := if_pos h16
    have l1 : ((s.length : Int) == 16) = true := by rw [h16]; rfl
    have HT := hid ht
    have hlt : (trS s).length ≤ 140737488355328 := by rw [ht]; simp [rep48]; omega
    clear h16 ht
    go_enter Tryz.func62, Tryz.ntmps62
    go_wp2_with fail
    rw [← HW0.out]
    refine (show Calls Tryz.prog _ #[Sv (rep48 ++ s), .int .i64 16] _ _ from HT.out ▸ (rbytes_any (trS s) 16 w0 hlt (by omega)).mono ?_); rintro e w1 ⟨rfl, hb1⟩
    go_wp2_with fail
    refine (rtrace_any (bytesB (trS s) 16) _ HBL.out).mono ?_; rintro e w2 ⟨rfl, hb2⟩
    rw [HS.out.1, HS.out.2]
    have HB2 := hid (HB.out.below (ext_trans hb1 hb2) HB.out.lt)
    have HBW2 := hid (HBW.out.trans ((ext_trans hb1 hb2).mono HBW.out.size))
    clear hb1 hb2
    go_wp2_with (refine wpList_store_av rfl 27 (.tmp 2) (.tmp 17) rfl w.heap.size 16 (traceT s) (zb 16) _ rfl rfl HB2.out info_trace HL.out (zb_length _) ?_; intro w3 hw3 hA3; have HA3 := hid hA3; have HW3 := hid hw3; clear hw3 hA3)
    exact bodyPost_ret (results_av2 rfl _ _ _ _ _ rfl HA3.out Tryz.underlying27 info_trace HL.out) rfl ⟨rfl, by rw [HW3.out]; exact setRow_below HBW2.out (Nat.le_refl _) _⟩
  · have ht : trS s = s := if_neg h16
    rw [ht] at HS HBL
    have l1 : ((s.length : Int) == 16) = false := by rw [beq_eq_false_iff_ne]; omega
    clear h16 ht
    go_enter Tryz.func62, Tryz.ntmps62
    go_wp2_with fail
    rw [← HW0.out]
    refine (rbytes_any s 16 _ hs (by omega)).mono ?_; rintro e w1 ⟨rfl, hb1⟩
    go_wp2_with fail
    refine (rtrace_any (bytesB s 16) _ HBL.out).mono ?_; rintro e w2 ⟨rfl, hb2⟩
    rw [HS.out.1, HS.out.2]
    have HB2 := hid (HB.out.below (ext_trans hb1 hb2) HB.out.lt)
    have HBW2 := hid (HBW.out.trans ((ext_trans hb1 hb2).mono HBW.out.size))
    clear hb1 hb2
    go_wp2_with (refine wpList_store_av rfl 27 (.tmp 2) (.tmp 17) rfl w.heap.size 16 (traceT s) (zb 16) _ rfl rfl HB2.out info_trace HL.out (zb_length _) ?_; intro w3 hw3 hA3; have HA3 := hid hA3; have HW3 := hid hw3; clear hw3 hA3)
    exact bodyPost_ret (results_av2 rfl _ _ _ _ _ rfl HA3.out Tryz.underlying27 info_trace HL.out) rfl ⟨rfl, by rw [HW3.out]; exact setRow_below HBW2.out (Nat.le_refl _) _⟩
end Go.Proofs.YtgfdmdikiickpaaGreatDoor

/-! PB3 -/
namespace Go.Proofs.YtgfdmdikiickpaaGreatDoor

def keepS (s : List UInt8) : Int := if s = [48] then 1 else if s = [49] then 2 else if s = [100] then 3 else 0
def letterS (k : Int) : List UInt8 := if k = 1 then [48] else if k = 2 then [49] else if k = 3 then [100] else []
theorem keepS_bd (s : List UInt8) : 0 ≤ keepS s ∧ keepS s ≤ 3 := by unfold keepS; (repeat' split) <;> omega
theorem letterS_len (k : Int) : (letterS k).length ≤ 1 := by unfold letterS; (repeat' split) <;> simp
theorem keepS_letter {k : Int} (h : k = 1 ∨ k = 2 ∨ k = 3) : keepS (letterS k) = k := by rcases h with rfl | rfl | rfl <;> rfl
theorem letterS_zero {k : Int} (h : ¬ (k = 1 ∨ k = 2 ∨ k = 3)) : letterS k = [] := by
  unfold letterS
  rw [if_neg (by omega), if_neg (by omega), if_neg (by omega)]
/-- A context and what is wrong. -/
abbrev Cx := List UInt8 × List UInt8 × List UInt8 × Int × Int
def cxBad (c : Int) : Cx := (zb 16, zb 8, zb 8, 0, c)
def idsR (a b : List UInt8) : Cx := if traceC a = 0 then (if spanC b = 0 then (traceT a, spanT b, zb 8, 0, 0) else cxBad (spanC b)) else cxBad (traceC a)
def keepR (r : Cx) (s : List UInt8) : Cx := if r.2.2.2.2 = 0 then (if keepS s = 0 then cxBad 3 else (r.1, r.2.1, r.2.2.1, keepS s, 0)) else r
def parR (r : Cx) (s : List UInt8) : Cx := if r.2.2.2.2 = 0 then (if spanC s = 0 then (r.1, r.2.1, spanT s, r.2.2.2.1, 0) else cxBad (spanC s)) else r
/-- The parts of a single header. -/
def oneL : List (List UInt8) → Cx
  | [a] => if keepS a = 0 then cxBad 3 else (zb 16, zb 8, zb 8, keepS a, 0)
  | [a, b] => idsR a b
  | [a, b, c] => keepR (idsR a b) c
  | [a, b, c, d] => parR (keepR (idsR a b) c) d
  | _ => cxBad 3
def oneR (s : List UInt8) : Cx := oneL (cutB 45 s)
theorem oneL_many {l : List (List UInt8)} (h : 4 < l.length) : oneL l = cxBad 3 := by
  match l, h with
  | _ :: _ :: _ :: _ :: _ :: _, _ => rfl
def lenOk (r : Cx) : Prop := r.1.length = 16 ∧ r.2.1.length = 8 ∧ r.2.2.1.length = 8
theorem lenOk_bad (c : Int) : lenOk (cxBad c) := ⟨by simp [cxBad], by simp [cxBad], by simp [cxBad]⟩
theorem lenOk_ids (a b : List UInt8) : lenOk (idsR a b) := by
  unfold idsR
  split
  · split
    · exact ⟨traceT_length a, spanT_length b, zb_length 8⟩
    · exact lenOk_bad _
  · exact lenOk_bad _
theorem lenOk_keep {r : Cx} (h : lenOk r) (s : List UInt8) : lenOk (keepR r s) := by
  unfold keepR
  split
  · split
    · exact lenOk_bad _
    · exact ⟨h.1, h.2.1, h.2.2⟩
  · exact h
theorem lenOk_par {r : Cx} (h : lenOk r) (s : List UInt8) : lenOk (parR r s) := by
  unfold parR
  split
  · split
    · exact ⟨h.1, h.2.1, spanT_length s⟩
    · exact lenOk_bad _
  · exact h
theorem lenOk_one (l : List (List UInt8)) : lenOk (oneL l) := by
  unfold oneL
  split
  · split
    · exact lenOk_bad _
    · exact ⟨zb_length 16, zb_length 8, zb_length 8⟩
  · exact lenOk_ids _ _
  · exact lenOk_keep (lenOk_ids _ _) _
  · exact lenOk_par (lenOk_keep (lenOk_ids _ _) _) _
  · exact lenOk_bad _
/-- May a context be written? -/
def mayC (t x p : List UInt8) (k : Int) : Bool := decide (0 ≤ k) && decide (k ≤ 3) && ((t == zb 16) == (x == zb 8)) && (!(t == zb 16) || (p == zb 8))
def named (t : List UInt8) : Bool := !(t == zb 16)
def within (p : List UInt8) : List UInt8 := if p = zb 8 then [] else hexEnc p
def oneT (t x p : List UInt8) (k : Int) : List UInt8 :=
  if mayC t x p k = true then
    if t = zb 16 then letterS k
    else hexEnc t ++ [45] ++ hexEnc x ++ (if k = 0 then [] else [45] ++ letterS k ++ (if p = zb 8 then [] else [45] ++ hexEnc p))
  else []
/-- The several headers. -/
abbrev Mu := List UInt8 × List UInt8 × List UInt8 × List UInt8 × List UInt8
def muNone : Mu := ([], [], [], [], [])
def multiT (t x p : List UInt8) (k : Int) : Mu :=
  if mayC t x p k = true then
    (if t = zb 16 then [] else hexEnc t, if t = zb 16 then [] else hexEnc x, within p, if k = 3 then [] else letterS k, if k = 3 then [49] else [])
  else muNone
def sfalse : List UInt8 := [102, 97, 108, 115, 101]
def strue : List UInt8 := [116, 114, 117, 101]
/-- What is said on keeping: a number, or none. -/
def sampR (sa fl : List UInt8) : Int × Int :=
  if sa = [] ∨ sa = [48] ∨ sa = sfalse ∨ sa = [49] ∨ sa = strue then
    (if fl = [49] then (3, 0) else if fl = [] ∨ fl = [48] then ((if sa = [] then 0 else if sa = [48] ∨ sa = sfalse then 1 else 2), 0) else (0, 3))
  else (0, 3)
def pairR (a b : List UInt8) : Cx := if a = [] then cxBad 0 else idsR a b
def withinR (r : Cx) (s : List UInt8) : Cx := if s = [] then r else parR r s
def sampledR (r : Cx) (q : Int × Int) : Cx := if r.2.2.2.2 = 0 then (if q.2 = 0 then (r.1, r.2.1, r.2.2.1, q.1, 0) else cxBad 3) else r
def halfM (m : Mu) : Prop := (m.1 = [] ∨ m.2.1 = []) ∧ ¬ (m.1 = [] ∧ m.2.1 = [] ∧ m.2.2.1 = [])
instance (m : Mu) : Decidable (halfM m) := by unfold halfM; infer_instance
def multiR (m : Mu) : Cx := if halfM m then cxBad 9 else sampledR (withinR (pairR m.1 m.2.1) m.2.2.1) (sampR m.2.2.2.1 m.2.2.2.2)
theorem lenOk_pair (a b : List UInt8) : lenOk (pairR a b) := by unfold pairR; split; exact lenOk_bad _; exact lenOk_ids _ _
theorem lenOk_within {r : Cx} (h : lenOk r) (s : List UInt8) : lenOk (withinR r s) := by unfold withinR; split; exact h; exact lenOk_par h _
theorem lenOk_samp {r : Cx} (h : lenOk r) (q : Int × Int) : lenOk (sampledR r q) := by
  unfold sampledR
  split
  · split
    · exact ⟨h.1, h.2.1, h.2.2⟩
    · exact lenOk_bad _
  · exact h
theorem lenOk_multi (m : Mu) : lenOk (multiR m) := by
  unfold multiR
  split
  · exact lenOk_bad _
  · exact lenOk_samp (lenOk_within (lenOk_pair _ _) _) _
/-! What is written comes back. -/
theorem hexEnc_nodash : ∀ l : List UInt8, (45 : UInt8) ∉ hexEnc l
  | [] => by simp [hexEnc]
  | b :: l => by
    have ih := hexEnc_nodash l
    have hb : ∀ b : UInt8, (45 : UInt8) ∉ hexEnc [b] := u8_all (by decide +kernel)
    have e : hexEnc (b :: l) = hexEnc [b] ++ hexEnc l := by rw [← hexEnc_append]; rfl
    rw [e, List.mem_append]
    exact fun h => h.elim (hb b) ih
theorem letterS_nodash (k : Int) : (45 : UInt8) ∉ letterS k := by unfold letterS; (repeat' split) <;> decide
theorem traceC_enc {t : List UInt8} (ht : t.length = 16) : traceC (hexEnc t) = if t = zb 16 then 10 else 0 := by
  unfold traceC
  rw [hexDec_enc]
  simp only
  rw [if_pos (.inl (by rw [hexEnc_length, ht])), ht]
  rfl
theorem traceT_enc {t : List UInt8} (ht : t.length = 16) : traceT (hexEnc t) = t := by
  unfold traceT
  rw [hexDec_enc]
  simp only
  rw [if_pos (.inl (by rw [hexEnc_length, ht])), ht]
  simp [zb]
theorem spanC_enc {x : List UInt8} (hx : x.length = 8) : spanC (hexEnc x) = if x = zb 8 then 10 else 0 := by
  unfold spanC
  rw [hexDec_enc]
  simp only
  rw [if_pos (by rw [hexEnc_length, hx])]
theorem spanT_enc {x : List UInt8} (hx : x.length = 8) : spanT (hexEnc x) = x := by
  unfold spanT
  rw [hexDec_enc]
  simp only
  rw [if_pos (by rw [hexEnc_length, hx])]
theorem hexEnc_nil_iff (l : List UInt8) : hexEnc l = [] ↔ l = [] := by
  constructor
  · intro h
    have := hexEnc_length l
    rw [h] at this
    exact List.eq_nil_of_length_eq_zero (by simp at this; omega)
  · rintro rfl; rfl
theorem idsR_enc {t x : List UInt8} (ht : t.length = 16) (hx : x.length = 8) (h1 : t ≠ zb 16) (h2 : x ≠ zb 8) : idsR (hexEnc t) (hexEnc x) = (t, x, zb 8, 0, 0) := by
  unfold idsR
  rw [traceC_enc ht, spanC_enc hx, if_neg h1, if_neg h2, if_pos rfl, if_pos rfl, traceT_enc ht, spanT_enc hx]
theorem mayC_of {t x p : List UInt8} {k : Int} (h : mayC t x p k = true) : 0 ≤ k ∧ k ≤ 3 ∧ (t = zb 16 ↔ x = zb 8) ∧ (t = zb 16 → p = zb 8) := by
  unfold mayC at h
  simp only [Bool.and_eq_true, Bool.or_eq_true, decide_eq_true_eq, beq_iff_eq, Bool.not_eq_true', beq_eq_false_iff_ne] at h
  obtain ⟨⟨⟨h0, h3⟩, he⟩, hp⟩ := h
  refine ⟨h0, h3, ?_, fun e => hp.resolve_left (fun n => n e)⟩
  constructor
  · intro e
    have : (x == zb 8) = true := by rw [← he]; simpa using e
    simpa using this
  · intro e
    have : (t == zb 16) = true := by rw [he]; simpa using e
    simpa using this
theorem multi_back {t x p : List UInt8} {k : Int} (ht : t.length = 16) (hx : x.length = 8) (hp : p.length = 8) (h : mayC t x p k = true) : multiR (multiT t x p k) = (t, x, p, k, 0) := by
  obtain ⟨h0, h3, htx, htp⟩ := mayC_of h
  have hs : sampR (if k = 3 then [] else letterS k) (if k = 3 then [49] else []) = (k, 0) := by
    rcases (by omega : k = 0 ∨ k = 1 ∨ k = 2 ∨ k = 3) with rfl | rfl | rfl | rfl <;> rfl
  have nz16 : zb 16 ≠ [] := by decide
  have nz8 : zb 8 ≠ [] := by decide
  have nt : t ≠ [] := by rintro rfl; cases ht
  have nx : x ≠ [] := by rintro rfl; cases hx
  have np : p ≠ [] := by rintro rfl; cases hp
  unfold multiT
  rw [if_pos h]
  unfold multiR
  simp only
  rw [hs]
  by_cases e : t = zb 16
  · obtain rfl := htp e
    have ex := htx.1 e
    subst ex
    rw [if_pos e, if_pos e]
    have hw : within (zb 8) = [] := if_pos rfl
    rw [hw, if_neg (by unfold halfM; simp)]
    show sampledR (cxBad 0) (k, 0) = _
    rw [e]
    rfl
  · have ex : x ≠ zb 8 := fun q => e (htx.2 q)
    rw [if_neg e, if_neg e]
    rw [if_neg (by unfold halfM; simp [hexEnc_nil_iff, nt, nx])]
    unfold pairR
    rw [if_neg (by rw [hexEnc_nil_iff]; exact nt), idsR_enc ht hx e ex]
    unfold within withinR
    by_cases ep : p = zb 8
    · subst ep
      rw [if_pos rfl, if_pos rfl]
      rfl
    · rw [if_neg ep, if_neg (by rw [hexEnc_nil_iff]; exact np)]
      unfold parR
      rw [if_pos rfl, spanC_enc hp, if_neg ep, if_pos rfl, spanT_enc hp]
      rfl
theorem one_back {t x p : List UInt8} {k : Int} (ht : t.length = 16) (hx : x.length = 8) (hp : p.length = 8) (h : mayC t x p k = true) (hn : oneT t x p k ≠ []) :
    oneR (oneT t x p k) = (t, x, if k = 0 then zb 8 else p, k, 0) := by
  obtain ⟨h0, h3, htx, htp⟩ := mayC_of h
  unfold oneT at hn ⊢
  rw [if_pos h] at hn ⊢
  unfold oneR
  by_cases e : t = zb 16
  · obtain rfl := htp e
    have ex := htx.1 e
    subst ex
    rw [if_pos e] at hn ⊢
    rw [cutB_none (letterS_nodash k)]
    have hk : k = 1 ∨ k = 2 ∨ k = 3 := Classical.byContradiction fun q => hn (letterS_zero q)
    show (if keepS (letterS k) = 0 then _ else _) = _
    rw [keepS_letter hk, if_neg (by omega), if_neg (by omega), e]
  · have ex : x ≠ zb 8 := fun q => e (htx.2 q)
    rw [if_neg e]
    by_cases hk0 : k = 0
    · rw [if_pos hk0, if_pos hk0, List.append_nil, List.append_assoc, List.singleton_append, cutB_app (hexEnc_nodash t), cutB_none (hexEnc_nodash x)]
      show idsR _ _ = _
      rw [idsR_enc ht hx e ex, hk0]
    · have hk : k = 1 ∨ k = 2 ∨ k = 3 := by omega
      rw [if_neg hk0, if_neg hk0]
      by_cases ep : p = zb 8
      · rw [if_pos ep, List.append_nil]
        simp only [List.append_assoc, List.cons_append, List.nil_append]
        rw [cutB_app (hexEnc_nodash t), cutB_app (hexEnc_nodash x), cutB_none (letterS_nodash k)]
        show keepR (idsR _ _) _ = _
        rw [idsR_enc ht hx e ex]
        unfold keepR
        rw [if_pos rfl, keepS_letter hk, if_neg hk0, ep]
      · rw [if_neg ep]
        simp only [List.append_assoc, List.cons_append, List.nil_append]
        rw [cutB_app (hexEnc_nodash t), cutB_app (hexEnc_nodash x), cutB_app (letterS_nodash k), cutB_none (hexEnc_nodash p)]
        show parR (keepR (idsR _ _) _) _ = _
        rw [idsR_enc ht hx e ex]
        unfold keepR
        rw [if_pos rfl, keepS_letter hk, if_neg hk0]
        unfold parR
        rw [if_pos rfl, spanC_enc hp, if_neg ep, if_pos rfl, spanT_enc hp]
/-- A name of 16 digits is that of 32 with noughts ahead. -/
theorem traceC_pad {s : List UInt8} (h : s.length = 16) : traceC (rep48 ++ s) = traceC s ∧ traceT (rep48 ++ s) = traceT s := by
  have hl : (rep48 ++ s).length = 32 := by rw [List.length_append, h]; rfl
  unfold traceC traceT
  rw [hexDec_zeros]
  cases hd : hexDec s with
  | none => exact ⟨rfl, rfl⟩
  | some b =>
    have hb : b.length = 8 := by have := hexDec_length s b hd; omega
    have hb' : (zb 8 ++ b).length = 16 := by rw [List.length_append, hb]; rfl
    simp only [Option.map_some]
    have c1 : (rep48 ++ s).length = 32 ∨ (rep48 ++ s).length = 16 := .inl hl
    have c2 : s.length = 32 ∨ s.length = 16 := .inr h
    simp only [if_pos c1, if_pos c2, hb, hb']
    exact ⟨rfl, rfl⟩
def tail16 : List UInt8 := 45 :: [48, 48, 48, 48, 48, 48, 48, 48, 48, 48, 48, 48, 48, 48, 48, 49]
theorem one_pad {s : List UInt8} (h : s.length = 16) (hd : (45 : UInt8) ∉ s) : oneR (rep48 ++ s ++ tail16) = oneR (s ++ tail16) := by
  have hd' : (45 : UInt8) ∉ rep48 ++ s := by
    rw [List.mem_append]
    exact fun q => q.elim (by decide) hd
  unfold oneR tail16
  rw [cutB_app hd', cutB_app hd, cutB_none (by decide)]
  show idsR _ _ = idsR _ _
  unfold idsR
  rw [(traceC_pad h).1, (traceC_pad h).2]
end Go.Proofs.YtgfdmdikiickpaaGreatDoor

/-! Steady -/
namespace Go.Proofs.YtgfdmdikiickpaaGreatDoor
open Go.RowKit

section
variable {P : Program} {ops : Array Oper} {md : Region.Mode} {S : World → Prop}
/-- What one run of an operation leaves: the value v, and a world that meets S. -/
def steadyEnd (P : Program) (S : World → Prop) (v : Value) : Result Next → Prop
  | .ok (.value u) w => u = v ∧ S w
  | .ok .skip w => v = undef ∧ S w
  | .ok (.enter f args) w => Calls P f args w fun e w' => e = .returned v ∧ S w'
  | _ => False
def Steady (P : Program) (ops : Array Oper) (S : World → Prop) (o : Oper) (v : Value) (a : Act) : Prop :=
  (Region.wanted o (yielded ops a.tmps) = true ∧ ∀ w, S w → steadyEnd P S v ((execOp a.eval o).run P w)) ∨ (Region.wanted o (yielded ops a.tmps) = false ∧ v = undef)
theorem Steady.put {o p : Oper} {v u : Value} {a : Act} (hs : ∀ cs b, o.op ≠ .select cs b) (h : ∀ d, p.dst = some d → d ∉ o.looksAt ops) : Steady P ops S o v (a.put p.dst u) ↔ Steady P ops S o v a := by
  unfold Steady
  rw [execOp_put o hs a p.dst u h, wanted_put o a p.dst u h]
theorem Steady.op {i : Nat} {o : Oper} {v : Value} {a : Act} {w : World} {K : Act → World → Prop} {Q : Exit → Act → World → Prop} (hi : ops[i]? = some o) (h : Steady P ops S o v a) (hS : S w) (hK : ∀ w', S w' → K (a.put o.dst v) w') : wpOp P ops Q i K a w := by
  unfold wpOp
  simp only [hi]
  rcases h with ⟨hw, hv⟩ | ⟨hw, rfl⟩
  · rw [if_pos hw]
    refine .inl ?_
    have h1 := hv w hS
    unfold Oper.wp
    generalize (execOp a.eval o).run P w = r at h1
    cases r with
    | halt x w' => exact h1.elim
    | ok n w' =>
      cases n with
      | value u => exact h1.1 ▸ hK w' h1.2
      | skip => obtain ⟨rfl, h2⟩ := h1; exact hK w' h2
      | enter f args =>
        refine Calls.mono h1 ?_
        rintro e w'' ⟨rfl, hS''⟩
        exact hK w'' hS''
      | _ => exact h1.elim
  · rw [if_neg (by simp [hw])]
    exact hK w hS
/-- All orders from here on: the values do not hang on the order. -/
def wpSet (P : Program) (md : Region.Mode) (ops : Array Oper) (S : World → Prop) (Q : Act → Prop) : Nat → Array Bool → Act → Prop
  | 0, listed, a => Region.ready md ops listed = [] ∧ Q a
  | f + 1, listed, a => (Region.ready md ops listed = [] → Q a) ∧ ∀ i ∈ Region.ready md ops listed, ∀ o, ops[i]? = some o → ∃ v, Steady P ops S o v a ∧ wpSet P md ops S Q f (listed.setIfInBounds i true) (a.put o.dst v)
theorem wpAny_of_set {Q : Exit → Act → World → Prop} {q : Act → Prop} (hq : ∀ a w, q a → S w → Q .normal a w) : ∀ (f : Nat) (listed : Array Bool) (a : Act) (w : World), wpSet P md ops S q f listed a → S w → wpAny P md ops Q f listed a w
  | 0, _, a, w, h, hS => ⟨h.1, hq a w h.2 hS⟩
  | f + 1, listed, a, w, h, hS => by
    refine ⟨fun h0 => hq a w (h.1 h0) hS, fun i hi => ?_⟩
    obtain ⟨_, o, ho, _⟩ := mem_ready.1 hi
    obtain ⟨v, h1, h2⟩ := h.2 i hi o ho
    exact h1.op ho hS fun w' hS' => wpAny_of_set hq f _ _ w' h2 hS'
theorem wpSet_first {Q : Act → Prop} {i : Nat} {o : Oper} {v : Value} (hi : ops[i]? = some o) (hsel : ∀ (j : Nat) (o : Oper) cs b, ops[j]? = some o → o.op ≠ .select cs b) :
    ∀ (f : Nat) (listed : Array Bool) (a : Act),
      (∀ j p, ops[j]? = some p → j ≠ i → listed.getD j true = false → (∀ e ∈ p.after, Region.binds md e = true → e.on ≠ i) → o.apart ops p = true) →
      i ∈ Region.ready md ops listed → Steady P ops S o v a → wpSet P md ops S Q f (listed.setIfInBounds i true) (a.put o.dst v) → wpSet P md ops S Q (f + 1) listed a := by
  intro f
  induction f with
  | zero =>
    intro listed a _ hr hst H
    refine ⟨fun h0 => absurd hr (by rw [h0]; simp), fun j hj p hp => ?_⟩
    rcases Nat.decEq j i with hji | hji
    · have h1 := ready_mono hj hji
      rw [H.1] at h1
      exact absurd h1 (by simp)
    · subst hji
      obtain rfl := Option.some.inj (hi.symm.trans hp)
      exact ⟨v, hst, H⟩
  | succ f ih =>
    intro listed a hfree hr hst H
    refine ⟨fun h0 => absurd hr (by rw [h0]; simp), fun j hj p hp => ?_⟩
    rcases Nat.decEq j i with hji | hji
    · obtain ⟨hun, p', hp', hall⟩ := mem_ready.1 hj
      obtain rfl := Option.some.inj (hp'.symm.trans hp)
      have hun0 := (mem_ready.1 hr).1
      have hno : ∀ e ∈ p'.after, Region.binds md e = true → e.on ≠ i := by
        intro e he hb heq
        have h1 := hall e he hb
        rw [heq] at h1
        by_cases hlt : i < listed.size
        · simp [hlt] at hun0 h1
          rw [hun0] at h1; cases h1
        · simp [Array.getElem?_eq_none (Nat.not_lt.1 hlt)] at h1
      obtain ⟨d1, d2, d3⟩ := Oper.apart_spec (hfree j p' hp hji hun hno)
      obtain ⟨u, hu, Hu⟩ := H.2 j (ready_mono hj hji) p' hp
      refine ⟨u, (Steady.put (fun cs b => hsel j p' cs b hp) d1).1 hu, ih _ _ ?_ (ready_mono hr (Ne.symm hji)) ((Steady.put (fun cs b => hsel i o cs b hi) d3).2 hst) ?_⟩
      · intro k q hq hki hun' hno'
        refine hfree k q hq hki ?_ hno'
        rcases Nat.decEq j k with hjk | hjk
        · rwa [getD_set_ne true hjk] at hun'
        · exact hjk ▸ hun
      · rw [Array.setIfInBounds_comm _ _ hji, ← Act.put_comm a v u d2]
        exact Hu
    · subst hji
      obtain rfl := Option.some.inj (hi.symm.trans hp)
      exact ⟨v, hst, H⟩
/-- The walk in the text's order. -/
def wpSteady (P : Program) (ops : Array Oper) (S : World → Prop) (Q : Act → Prop) : List Oper → Act → Prop
  | [], a => Q a
  | o :: rest, a => ∃ v, Steady P ops S o v a ∧ wpSteady P ops S Q rest (a.put o.dst v)
theorem wpSet_lex {Q : Act → Prop} (hs : Region.noSelect ops = true) : ∀ (l : List Oper) (k : Nat) (listed : Array Bool) (a : Act), (∀ j, l[j]? = ops[k + j]?) →
    Region.lexFrom md ops l.length k listed = true → wpSteady P ops S Q l a → wpSet P md ops S Q l.length listed a
  | [], _, _, _, _, hB, h => ⟨by simpa [Region.lexFrom] using hB, h⟩
  | o :: l, k, listed, a, hl, hB, ⟨v, hv, h⟩ => by
    simp only [List.length_cons, Region.lexFrom, Bool.and_eq_true] at hB
    have h0 : ops[k]? = some o := by simpa using (hl 0).symm
    have hl' : ∀ j, l[j]? = ops[k + 1 + j]? := fun j => by
      have := hl (j + 1)
      rw [List.getElem?_cons_succ] at this
      rw [this, show k + (j + 1) = k + 1 + j by omega]
    exact wpSet_first h0 (Region.noSelect_spec hs) _ _ _ (Region.free_spec h0 hB.1.2) (by simpa using hB.1.1) hv (wpSet_lex hs l (k + 1) _ _ hl' hB.2 h)
/-- THE LAW. -/
theorem region_steady {id : Nat} {Q : Exit → Act → World → Prop} {a : Act} {w : World} {l : List Oper} (S : World → Prop) (hm : P.follows .mixedOrders = true) (hB : Region.lexB .any l.toArray = true) (hS : S w.drew)
    (h : wpSteady P l.toArray S (fun a' => ∀ w', S w' → Q .normal a' w') l a) : (Code.region id l.toArray true).wp P Q a w := by
  simp only [Region.lexB, Bool.and_eq_true] at hB
  refine wp_region_any hm (wpAny_of_set (q := fun a' => ∀ w', S w' → Q .normal a' w') (fun a w h hS => h w hS) _ _ _ _ ?_ hS)
  have := wpSet_lex (md := .any) hB.1 l 0 (Array.replicate l.toArray.size false) a (by simp) (by simpa using hB.2) h
  simpa using this
variable {Q : Act → Prop} {a : Act} {o : Oper} {rest : List Oper}
theorem steady_nil (h : Q a) : wpSteady P ops S Q [] a := h
theorem steady_pure {v : Value} (hw : Region.wanted o (yielded ops a.tmps) = true) (h : ∀ w, (execOp a.eval o).run P w = .ok (.value v) w) (hn : wpSteady P ops S Q rest (a.put o.dst v)) : wpSteady P ops S Q (o :: rest) a :=
  ⟨v, .inl ⟨hw, fun w hS => by rw [h w]; exact ⟨rfl, hS⟩⟩, hn⟩
theorem steady_off (hw : Region.wanted o (yielded ops a.tmps) = false) (hn : wpSteady P ops S Q rest (a.put o.dst undef)) : wpSteady P ops S Q (o :: rest) a :=
  ⟨undef, .inr ⟨hw, rfl⟩, hn⟩
theorem steady_run {v : Value} (hw : Region.wanted o (yielded ops a.tmps) = true) (h : ∀ w, S w → (execOp a.eval o).run P w = .ok (.value v) w) (hn : wpSteady P ops S Q rest (a.put o.dst v)) : wpSteady P ops S Q (o :: rest) a :=
  ⟨v, .inl ⟨hw, fun w hS => by rw [h w hS]; exact ⟨rfl, hS⟩⟩, hn⟩
theorem steady_load {v : Value} (ty : TypeId) (x : Operand) (ho : o.op = .load ty x) (hw : Region.wanted o (yielded ops a.tmps) = true) (h : ∀ w, S w → (Instr.loadAt ty (a.eval x)).run P w = .ok v w) (hn : wpSteady P ops S Q rest (a.put o.dst v)) : wpSteady P ops S Q (o :: rest) a :=
  steady_run hw (fun w hS => by simp [execOp, ho, h w hS, Result.andThen]) hn
theorem steady_call {v : Value} {f : FuncId} {args : Array Value} (hc : ∀ w, S w → Calls P f args w fun e w' => e = .returned v ∧ S w') (hw : Region.wanted o (yielded ops a.tmps) = true) (h : ∀ w, (execOp a.eval o).run P w = .ok (.enter f args) w) (hn : wpSteady P ops S Q rest (a.put o.dst v)) : wpSteady P ops S Q (o :: rest) a :=
  ⟨v, .inl ⟨hw, fun w hS => by rw [h w]; exact hc w hS⟩, hn⟩
end
end Go.Proofs.YtgfdmdikiickpaaGreatDoor

/-! Token -/
namespace Go.Proofs.YtgfdmdikiickpaaGreatDoor
open Go.RowKit

section
variable {P : Program} {ops : Array Oper} {md : Region.Mode} {S : Value → World → Prop} {d : Tmp}
/-- The frame, where the token is made (m) or not yet. -/
def fam (d : Tmp) (a : Act) (m : Bool) (x : Value) : Act := match m with
  | true => a.put (some d) x
  | false => a
/-- What one run of an operation leaves: the value v (none: a new token), and a world that meets S. -/
def tokEnd (P : Program) (S : Value → World → Prop) (x : Value) (v : Option Value) : Result Next → Prop
  | .ok (.value u) w => match v with
    | some v => u = v ∧ S x w
    | none => S u w
  | .ok .skip w => v = some undef ∧ S x w
  | .ok (.enter f args) w => ∃ u, v = some u ∧ Calls P f args w fun e w' => e = .returned u ∧ S x w'
  | _ => False
def Tok (P : Program) (ops : Array Oper) (S : Value → World → Prop) (d : Tmp) (o : Oper) (v : Option Value) (a : Act) (m : Bool) : Prop :=
  (match v with
    | some _ => o.dst ≠ some d
    | none => o.dst = some d ∧ m = false) ∧
  (((∀ x, Region.wanted o (yielded ops (fam d a m x).tmps) = true) ∧ (∀ x w, S x w → tokEnd P S x v ((execOp (fam d a m x).eval o).run P w))) ∨
  ((∀ x, Region.wanted o (yielded ops (fam d a m x).tmps) = false) ∧ v = some undef))
def nextA (a : Act) (o : Oper) (v : Option Value) : Act := match v with
  | some v => a.put o.dst v
  | none => a
def nextM (m : Bool) (v : Option Value) : Bool := match v with
  | some _ => m
  | none => true
theorem fam_next {a : Act} {m : Bool} {o : Oper} {v : Option Value} {x y : Value} (h : Tok P ops S d o v a m) (hv : v = none → x = y) : ∀ u, (match v with | some v => u = v | none => u = x) →
    (fam d a m y).put o.dst u = fam d (nextA a o v) (nextM m v) (match v with | some _ => y | none => u) := by
  intro u hu
  cases v with
  | some v =>
    obtain rfl := hu
    cases m with
    | true => exact (Act.put_comm a y u (fun e he => by injection he with he; subst he; exact h.1)) 
    | false => rfl
  | none =>
    obtain rfl := hu
    obtain ⟨⟨h1, h2⟩, _⟩ := h
    subst h2
    show (a.put o.dst u) = a.put (some d) u
    rw [h1]
/-- All orders from here on. -/
def wpTokS (P : Program) (md : Region.Mode) (ops : Array Oper) (S : Value → World → Prop) (d : Tmp) (Q : Act → Bool → Prop) : Nat → Array Bool → Act → Bool → Prop
  | 0, listed, a, m => Region.ready md ops listed = [] ∧ Q a m
  | f + 1, listed, a, m => (Region.ready md ops listed = [] → Q a m) ∧ ∀ i ∈ Region.ready md ops listed, ∀ o, ops[i]? = some o → ∃ v, Tok P ops S d o v a m ∧ wpTokS P md ops S d Q f (listed.setIfInBounds i true) (nextA a o v) (nextM m v)
theorem Tok.op {i : Nat} {o : Oper} {v : Option Value} {a : Act} {m : Bool} {x : Value} {w : World} {K : Act → World → Prop} {Q : Exit → Act → World → Prop} (hi : ops[i]? = some o) (h : Tok P ops S d o v a m) (hS : S x w)
    (hK : ∀ y w', S y w' → K (fam d (nextA a o v) (nextM m v) y) w') : wpOp P ops Q i K (fam d a m x) w := by
  unfold wpOp
  simp only [hi]
  have hn := fun (y : Value) (hv : v = none → y = x) u hu => fam_next (x := y) (y := x) h hv u hu
  rcases h.2 with ⟨hw, hv⟩ | ⟨hw, rfl⟩
  · rw [if_pos (hw x)]
    refine .inl ?_
    have h1 := hv x w hS
    unfold Oper.wp
    generalize (execOp (fam d a m x).eval o).run P w = r at h1
    cases r with
    | halt _ w' => exact h1.elim
    | ok n w' =>
      cases n with
      | value u =>
        cases v with
        | some v =>
          obtain ⟨rfl, hS'⟩ := h1
          show K ((fam d a m x).put o.dst u) w'
          rw [fam_next (x := x) (y := x) h (fun _ => rfl) u rfl]
          exact hK x w' hS'
        | none =>
          show K ((fam d a m x).put o.dst u) w'
          obtain ⟨⟨e1, e2⟩, _⟩ := h
          subst e2
          have hh := hK u w' h1
          have e : (fam d a false x).put o.dst u = fam d (nextA a o none) (nextM false none) u := by
            show a.put o.dst u = a.put (some d) u
            rw [e1]
          rw [e]; exact hh
      | skip =>
        obtain ⟨rfl, h2⟩ := h1
        have e := fam_next (x := x) (y := x) h (fun _ => rfl) undef rfl
        show K ((fam d a m x).put o.dst undef) w'
        rw [e]
        exact hK x w' h2
      | enter f args =>
        obtain ⟨u, rfl, hc⟩ := h1
        have e := fam_next (x := x) (y := x) h (fun _ => rfl) u rfl
        refine Calls.mono hc ?_
        rintro _ w'' ⟨rfl, hS''⟩
        show K ((fam d a m x).put o.dst u) w''
        rw [e]
        exact hK x w'' hS''
      | _ => exact h1.elim
  · rw [if_neg (by simp [hw x])]
    have e := fam_next (x := x) (y := x) h (fun _ => rfl) undef rfl
    rw [e]
    exact hK x w hS
theorem wpAny_of_tokS {Q : Exit → Act → World → Prop} {q : Act → Bool → Prop} (hq : ∀ a m x w, q a m → S x w → Q .normal (fam d a m x) w) : ∀ (f : Nat) (listed : Array Bool) (a : Act) (m : Bool) (x : Value) (w : World), wpTokS P md ops S d q f listed a m → S x w → wpAny P md ops Q f listed (fam d a m x) w
  | 0, _, a, m, x, w, h, hS => ⟨h.1, hq a m x w h.2 hS⟩
  | f + 1, listed, a, m, x, w, h, hS => by
    refine ⟨fun h0 => hq a m x w (h.1 h0) hS, fun i hi => ?_⟩
    obtain ⟨_, o, ho, _⟩ := mem_ready.1 hi
    obtain ⟨v, h1, h2⟩ := h.2 i hi o ho
    exact h1.op ho hS fun y w' hS' => wpAny_of_tokS hq f _ _ _ y w' h2 hS'
theorem eval_fam {o p : Oper} {_v u : Option Value} {a : Act} {m : Bool} (hs : ∀ cs b, o.op ≠ .select cs b) (hp : Tok P ops S d p u a m) (h : ∀ e, p.dst = some e → e ∉ o.looksAt ops) (x : Value) :
    execOp (fam d (nextA a p u) (nextM m u) x).eval o = execOp (fam d a m x).eval o ∧ Region.wanted o (yielded ops (fam d (nextA a p u) (nextM m u) x).tmps) = Region.wanted o (yielded ops (fam d a m x).tmps) := by
  cases u with
  | some u =>
    have e := fam_next (x := x) (y := x) hp (fun _ => rfl) u rfl
    simp only at e
    rw [← e]
    exact ⟨execOp_put o hs _ _ _ h, wanted_put o _ _ _ h⟩
  | none =>
    obtain ⟨⟨e1, e2⟩, _⟩ := hp
    subst e2
    show execOp (a.put (some d) x).eval o = execOp a.eval o ∧ Region.wanted o (yielded ops (a.put (some d) x).tmps) = Region.wanted o (yielded ops a.tmps)
    rw [← e1]
    exact ⟨execOp_put o hs _ _ _ h, wanted_put o _ _ _ h⟩
/-- What an operation does is the same before and behind another that it does not look at. -/
theorem Tok.back {o p : Oper} {v u : Option Value} {a : Act} {m : Bool} (hs : ∀ cs b, o.op ≠ .select cs b) (hp : Tok P ops S d p u a m) (h : ∀ e, p.dst = some e → e ∉ o.looksAt ops)
    (hc : Tok P ops S d o v (nextA a p u) (nextM m u)) : Tok P ops S d o v a m := by
  refine ⟨?_, ?_⟩
  · cases v with
    | some v => exact hc.1
    | none =>
      refine ⟨hc.1.1, ?_⟩
      have := hc.1.2
      cases u with
      | some u => exact this
      | none => exact absurd this (by simp [nextM])
  · rcases hc.2 with ⟨h1, h2⟩ | ⟨h1, h2⟩
    · exact .inl ⟨fun x => by rw [← (eval_fam (_v := v) hs hp h x).2]; exact h1 x, fun x w hS => by rw [← (eval_fam (_v := v) hs hp h x).1]; exact h2 x w hS⟩
    · exact .inr ⟨fun x => by rw [← (eval_fam (_v := v) hs hp h x).2]; exact h1 x, h2⟩
theorem Tok.forth {o p : Oper} {v u : Option Value} {a : Act} {m : Bool} (hs : ∀ cs b, o.op ≠ .select cs b) (hp : Tok P ops S d p u a m) (h : ∀ e, p.dst = some e → e ∉ o.looksAt ops) (hne : ∀ e, p.dst = some e → o.dst ≠ some e)
    (hc : Tok P ops S d o v a m) : Tok P ops S d o v (nextA a p u) (nextM m u) := by
  refine ⟨?_, ?_⟩
  · cases v with
    | some v => exact hc.1
    | none =>
      refine ⟨hc.1.1, ?_⟩
      cases u with
      | some u => exact hc.1.2
      | none => exact absurd hc.1.1 (hne d hp.1.1)
  · rcases hc.2 with ⟨h1, h2⟩ | ⟨h1, h2⟩
    · exact .inl ⟨fun x => by rw [(eval_fam (_v := v) hs hp h x).2]; exact h1 x, fun x w hS => by rw [(eval_fam (_v := v) hs hp h x).1]; exact h2 x w hS⟩
    · exact .inr ⟨fun x => by rw [(eval_fam (_v := v) hs hp h x).2]; exact h1 x, h2⟩
theorem next_comm {o p : Oper} {v u : Option Value} {a : Act} {m : Bool} (h : ∀ e, o.dst = some e → p.dst ≠ some e) : nextA (nextA a o v) p u = nextA (nextA a p u) o v ∧ nextM (nextM m v) u = nextM (nextM m u) v := by
  cases v <;> cases u <;> first | exact ⟨rfl, rfl⟩ | exact ⟨Act.put_comm a _ _ h, rfl⟩
theorem wpTokS_first {Q : Act → Bool → Prop} {i : Nat} {o : Oper} {v : Option Value} (hi : ops[i]? = some o) (hsel : ∀ (j : Nat) (o : Oper) cs b, ops[j]? = some o → o.op ≠ .select cs b) :
    ∀ (f : Nat) (listed : Array Bool) (a : Act) (m : Bool),
      (∀ j p, ops[j]? = some p → j ≠ i → listed.getD j true = false → (∀ e ∈ p.after, Region.binds md e = true → e.on ≠ i) → o.apart ops p = true) →
      i ∈ Region.ready md ops listed → Tok P ops S d o v a m → wpTokS P md ops S d Q f (listed.setIfInBounds i true) (nextA a o v) (nextM m v) → wpTokS P md ops S d Q (f + 1) listed a m := by
  intro f
  induction f with
  | zero =>
    intro listed a m _ hr hst H
    refine ⟨fun h0 => absurd hr (by rw [h0]; simp), fun j hj p hp => ?_⟩
    rcases Nat.decEq j i with hji | hji
    · have h1 := ready_mono hj hji
      rw [H.1] at h1
      exact absurd h1 (by simp)
    · subst hji
      obtain rfl := Option.some.inj (hi.symm.trans hp)
      exact ⟨v, hst, H⟩
  | succ f ih =>
    intro listed a m hfree hr hst H
    refine ⟨fun h0 => absurd hr (by rw [h0]; simp), fun j hj p hp => ?_⟩
    rcases Nat.decEq j i with hji | hji
    · obtain ⟨hun, p', hp', hall⟩ := mem_ready.1 hj
      obtain rfl := Option.some.inj (hp'.symm.trans hp)
      have hun0 := (mem_ready.1 hr).1
      have hno : ∀ e ∈ p'.after, Region.binds md e = true → e.on ≠ i := by
        intro e he hb heq
        have h1 := hall e he hb
        rw [heq] at h1
        by_cases hlt : i < listed.size
        · simp [hlt] at hun0 h1
          rw [hun0] at h1; cases h1
        · simp [Array.getElem?_eq_none (Nat.not_lt.1 hlt)] at h1
      obtain ⟨d1, d2, d3⟩ := Oper.apart_spec (hfree j p' hp hji hun hno)
      obtain ⟨u, hu, Hu⟩ := H.2 j (ready_mono hj hji) p' hp
      have hu' := Tok.back (fun cs b => hsel j p' cs b hp) hst d1 hu
      refine ⟨u, hu', ih _ _ _ ?_ (ready_mono hr (Ne.symm hji)) (Tok.forth (fun cs b => hsel i o cs b hi) hu' d3 (fun e he h2 => d2 e h2 he) hst) ?_⟩
      · intro k q hq hki hun' hno'
        refine hfree k q hq hki ?_ hno'
        rcases Nat.decEq j k with hjk | hjk
        · rwa [getD_set_ne true hjk] at hun'
        · exact hjk ▸ hun
      · obtain ⟨e1, e2⟩ := next_comm (a := a) (m := m) (v := v) (u := u) d2
        rw [Array.setIfInBounds_comm _ _ hji, ← e1, ← e2]
        exact Hu
    · subst hji
      obtain rfl := Option.some.inj (hi.symm.trans hp)
      exact ⟨v, hst, H⟩
/-- The walk in the text's order. -/
def wpTok (P : Program) (ops : Array Oper) (S : Value → World → Prop) (d : Tmp) (Q : Act → Bool → Prop) : List Oper → Act → Bool → Prop
  | [], a, m => Q a m
  | o :: rest, a, m => ∃ v, Tok P ops S d o v a m ∧ wpTok P ops S d Q rest (nextA a o v) (nextM m v)
theorem wpTokS_lex {Q : Act → Bool → Prop} (hs : Region.noSelect ops = true) : ∀ (l : List Oper) (k : Nat) (listed : Array Bool) (a : Act) (m : Bool), (∀ j, l[j]? = ops[k + j]?) →
    Region.lexFrom md ops l.length k listed = true → wpTok P ops S d Q l a m → wpTokS P md ops S d Q l.length listed a m
  | [], _, _, _, _, _, hB, h => ⟨by simpa [Region.lexFrom] using hB, h⟩
  | o :: l, k, listed, a, m, hl, hB, ⟨v, hv, h⟩ => by
    simp only [List.length_cons, Region.lexFrom, Bool.and_eq_true] at hB
    have h0 : ops[k]? = some o := by simpa using (hl 0).symm
    have hl' : ∀ j, l[j]? = ops[k + 1 + j]? := fun j => by
      have := hl (j + 1)
      rw [List.getElem?_cons_succ] at this
      rw [this, show k + (j + 1) = k + 1 + j by omega]
    exact wpTokS_first h0 (Region.noSelect_spec hs) _ _ _ _ (Region.free_spec h0 hB.1.2) (by simpa using hB.1.1) hv (wpTokS_lex hs l (k + 1) _ _ _ hl' hB.2 h)
/-- THE LAW. -/
theorem region_token {id : Nat} {Q : Exit → Act → World → Prop} {a : Act} {w : World} {l : List Oper} (S : Value → World → Prop) (d : Tmp) (x : Value) (hm : P.follows .mixedOrders = true) (hB : Region.lexB .any l.toArray = true) (hS : S x w.drew)
    (h : wpTok P l.toArray S d (fun a' m => ∀ y w', S y w' → Q .normal (fam d a' m y) w') l a false) : (Code.region id l.toArray true).wp P Q a w := by
  simp only [Region.lexB, Bool.and_eq_true] at hB
  refine wp_region_any hm (wpAny_of_tokS (q := fun a' m => ∀ y w', S y w' → Q .normal (fam d a' m y) w') (a := a) (m := false) (d := d) (fun a m x w h hS => h x w hS) _ _ x _ ?_ hS)
  have := wpTokS_lex (md := .any) hB.1 l 0 (Array.replicate l.toArray.size false) a false (by simp) (by simpa using hB.2) h
  simpa using this
/-- The same with a tail of one forced order, which may write. -/
def wpTokL (P : Program) (md : Region.Mode) (ops : Array Oper) (S : Value → World → Prop) (d : Tmp) (n : Nat) (L : Array Bool → Act → Bool → Prop) : Nat → Array Bool → Act → Bool → Prop
  | 0, listed, a, m => L listed a m
  | f + 1, listed, a, m => Region.ready md ops listed ≠ [] ∧ ∀ i ∈ Region.ready md ops listed, i < n ∧ ∀ o, ops[i]? = some o → ∃ v, Tok P ops S d o v a m ∧ wpTokL P md ops S d n L f (listed.setIfInBounds i true) (nextA a o v) (nextM m v)
theorem wpAny_of_tokL {n g : Nat} {L : Array Bool → Act → Bool → Prop} {Q' : Exit → Act → World → Prop} (hL : ∀ listed a m x w, L listed a m → S x w → wpAny P md ops Q' g listed (fam d a m x) w) :
    ∀ (f : Nat) (listed : Array Bool) (a : Act) (m : Bool) (x : Value) (w : World), wpTokL P md ops S d n L f listed a m → S x w → wpAny P md ops Q' (f + g) listed (fam d a m x) w
  | 0, listed, a, m, x, w, h, hS => by rw [Nat.zero_add]; exact hL _ _ _ _ _ h hS
  | f + 1, listed, a, m, x, w, h, hS => by
    rw [show f + 1 + g = (f + g) + 1 by omega]
    refine ⟨fun h0 => absurd h0 h.1, fun i hi => ?_⟩
    obtain ⟨_, o, ho, _⟩ := mem_ready.1 hi
    obtain ⟨v, h1, h2⟩ := (h.2 i hi).2 o ho
    exact h1.op ho hS fun y w' hS' => wpAny_of_tokL hL f _ _ _ y w' h2 hS'
theorem wpTokL_first {n i : Nat} {oi : Oper} {v : Option Value} {L : Array Bool → Act → Bool → Prop} (hi : ops[i]? = some oi) (hsel : ∀ (j : Nat) (o : Oper) cs b, ops[j]? = some o → o.op ≠ .select cs b)
    (hs : Region.sinkB md ops n = true) (hc : Region.chainB md ops n = true) (hn : n < ops.size) (hin : i < n)
    (hdone : ∀ listed a m, L listed a m → ∀ j ∈ Region.ready md ops listed, n ≤ j) :
    ∀ (f : Nat) (listed : Array Bool) (a : Act) (m : Bool), HeadInv md ops n listed →
      (∀ j oj, ops[j]? = some oj → j ≠ i → listed.getD j true = false → (∀ e ∈ oj.after, Region.binds md e = true → e.on ≠ i) → oi.apart ops oj = true) →
      i ∈ Region.ready md ops listed → Tok P ops S d oi v a m →
      wpTokL P md ops S d n L f (listed.setIfInBounds i true) (nextA a oi v) (nextM m v) → wpTokL P md ops S d n L (f + 1) listed a m := by
  intro f
  induction f with
  | zero =>
    intro listed a m inv _ hr hy H
    have hun := (mem_ready.1 hr).1
    refine ⟨fun h => (by rw [h] at hr; cases hr), fun j hj => ?_⟩
    have hjn : j < n := by
      rcases Nat.lt_or_ge j n with h | h
      · exact h
      · exact absurd hj (tail_waits hs hc hn inv _ i rfl hin hun j h)
    refine ⟨hjn, fun p hp => ?_⟩
    by_cases hji : j = i
    · subst hji
      obtain rfl := Option.some.inj (hi.symm.trans hp)
      exact ⟨v, hy, H⟩
    · have := hdone _ _ _ H j (ready_mono hj hji)
      omega
  | succ f ih =>
    intro listed a m inv hfree hr hy H
    have hun := (mem_ready.1 hr).1
    refine ⟨fun h => (by rw [h] at hr; cases hr), fun j hj => ?_⟩
    have hjn : j < n := by
      rcases Nat.lt_or_ge j n with h | h
      · exact h
      · exact absurd hj (tail_waits hs hc hn inv _ i rfl hin hun j h)
    refine ⟨hjn, fun p hp => ?_⟩
    by_cases hji : j = i
    · subst hji
      obtain rfl := Option.some.inj (hi.symm.trans hp)
      exact ⟨v, hy, H⟩
    · obtain ⟨hjun, oj, hoj, hall⟩ := mem_ready.1 hj
      obtain rfl := Option.some.inj (hoj.symm.trans hp)
      have hnot : ∀ e ∈ oj.after, Region.binds md e = true → e.on ≠ i := fun e he hb heq => by
        have h1 := hall e he hb
        rw [heq, getD_both hun] at h1
        cases h1
      obtain ⟨d1, d2, d3⟩ := Oper.apart_spec (hfree j oj hoj hji hjun hnot)
      obtain ⟨u, hu, Hu⟩ := (H.2 j (ready_mono hj hji)).2 oj hoj
      have hu' := Tok.back (fun cs b => hsel j oj cs b hoj) hy d1 hu
      have hfree' : ∀ k ok, ops[k]? = some ok → k ≠ i → (listed.setIfInBounds j true).getD k true = false →
          (∀ e ∈ ok.after, Region.binds md e = true → e.on ≠ i) → oi.apart ops ok = true := fun k ok hk hki hun hno => by
        refine hfree k ok hk hki ?_ hno
        by_cases hjk : j = k
        · subst hjk; exact hjun
        · rw [getD_set_ne true hjk] at hun; exact hun
      refine ⟨u, hu', ih _ _ _ (inv.set hj hjn) hfree' (ready_mono hr (Ne.symm hji)) (Tok.forth (fun cs b => hsel i oi cs b hi) hu' d3 (fun e he h2 => d2 e h2 he) hy) ?_⟩
      obtain ⟨e1, e2⟩ := next_comm (a := a) (m := m) (v := v) (u := u) d2
      rw [Array.setIfInBounds_comm _ _ hji, ← e1, ← e2]
      exact Hu
theorem wpTokL_lex {n g : Nat} {Lq : Act → Bool → Prop} (hsel : Region.noSelect ops = true) (hs : Region.sinkB md ops n = true) (hc : Region.chainB md ops n = true) (hn : n < ops.size) :
    ∀ (l : List Oper) (k : Nat) (listed : Array Bool) (a : Act) (m : Bool), (∀ j, j < l.length → l[j]? = ops[k + j]?) → k + l.length = n → HeadInv md ops n listed →
    Region.lexHead md ops g l.length k listed = true → wpTok P ops S d Lq l a m →
    wpTokL P md ops S d n (fun listed' a' m' => Region.seqB md ops g n listed' = true ∧ Lq a' m') l.length listed a m
  | [], k, listed, a, m, _, hk, _, hB, h => by
    have : k = n := by simpa using hk
    subst this
    exact ⟨by simpa [Region.lexHead] using hB, h⟩
  | o :: l, k, listed, a, m, hl, hk, inv, hB, ⟨v, hv, h⟩ => by
    have h0 : ops[k]? = some o := by simpa using (hl 0 (by simp)).symm
    simp only [List.length_cons, Region.lexHead, Bool.and_eq_true] at hB
    obtain ⟨⟨hr, hf⟩, hB'⟩ := hB
    have hkn : k < n := by simp only [List.length_cons] at hk; omega
    have hr' : k ∈ Region.ready md ops listed := by simpa using hr
    exact wpTokL_first h0 (Region.noSelect_spec hsel) hs hc hn hkn (fun listed a m hL => seqB_ready hL.1) _ _ _ _ inv (Region.free_spec h0 hf) hr' hv
      (wpTokL_lex hsel hs hc hn l (k + 1) _ _ _ (fun j hj => by have := hl (j + 1) (by simp; omega); simpa [Nat.add_assoc, Nat.add_comm 1 j] using this) (by simp only [List.length_cons] at hk; omega) (inv.set hr' hkn) hB' h)
/-- THE LAW, with a tail. -/
theorem region_token_tail {id : Nat} {Q : Exit → Act → World → Prop} {a : Act} {w : World} {l : List Oper} (S : Value → World → Prop) (d : Tmp) (x : Value) (n : Nat) (hm : P.follows .mixedOrders = true) (hB : Region.lexTailB .any l.toArray n = true) (hS : S x w.drew)
    (h : wpTok P l.toArray S d (fun a' m => ∀ y w', S y w' → wpList P l.toArray Q (l.drop n) (fam d a' m y) w') (l.take n) a false) : (Code.region id l.toArray true).wp P Q a w := by
  simp only [Region.lexTailB, Bool.and_eq_true, decide_eq_true_eq] at hB
  obtain ⟨⟨⟨⟨hsel, hn⟩, hs⟩, hc⟩, hlex⟩ := hB
  have hn' : n < l.length := by simpa using hn
  have htl : (l.take n).length = n := by simp; omega
  have hdl : (l.drop n).length = l.toArray.size - n := by simp
  have inv0 : HeadInv .any l.toArray n (Array.replicate l.toArray.size false) :=
    ⟨by simp, fun j oj _ hl => (by rw [getD_replicate_false] at hl; cases hl), fun t _ ht => getD_in (by simpa using ht) (getD_replicate_false _ _)⟩
  have H := wpTokL_lex (md := .any) (g := l.toArray.size - n) hsel hs hc hn (l.take n) 0 _ a false (fun j hj => by
    have hj' : j < n := by rw [htl] at hj; exact hj
    simp [hj']) (by simpa using htl) inv0 (by rw [htl]; exact hlex) h
  refine wp_region_any hm ?_
  have := wpAny_of_tokL (Q' := Q) (g := l.toArray.size - n) (fun listed a' m' x' w' hL hS' => by
    have := wpAny_of_seq (md := .any) (Q' := Q) (l.drop n) n listed (fam d a' m' x') w' (fun j => by simp [List.getElem?_drop]) (by rw [hdl]; exact hL.1) (hL.2 x' w' hS')
    rwa [hdl] at this) _ _ _ _ x _ H hS
  rw [htl, show n + (l.toArray.size - n) = l.toArray.size by omega] at this
  exact this
variable {Q : Act → Bool → Prop} {a : Act} {m : Bool} {o : Oper} {rest : List Oper}
theorem tok_nil (h : Q a m) : wpTok P ops S d Q [] a m := h
theorem tok_off (hd : o.dst ≠ some d) (hw : ∀ x, Region.wanted o (yielded ops (fam d a m x).tmps) = false) (hn : wpTok P ops S d Q rest (a.put o.dst undef) m) : wpTok P ops S d Q (o :: rest) a m :=
  ⟨some undef, ⟨hd, .inr ⟨hw, rfl⟩⟩, hn⟩
theorem tok_run {v : Value} (hd : o.dst ≠ some d) (hw : ∀ x, Region.wanted o (yielded ops (fam d a m x).tmps) = true) (h : ∀ x w, S x w → (execOp (fam d a m x).eval o).run P w = .ok (.value v) w) (hn : wpTok P ops S d Q rest (a.put o.dst v) m) : wpTok P ops S d Q (o :: rest) a m :=
  ⟨some v, ⟨hd, .inl ⟨hw, fun x w hS => by rw [h x w hS]; exact ⟨rfl, hS⟩⟩⟩, hn⟩
theorem tok_pure {v : Value} (hd : o.dst ≠ some d) (hw : ∀ x, Region.wanted o (yielded ops (fam d a m x).tmps) = true) (h : ∀ x w, (execOp (fam d a m x).eval o).run P w = .ok (.value v) w) (hn : wpTok P ops S d Q rest (a.put o.dst v) m) : wpTok P ops S d Q (o :: rest) a m :=
  tok_run hd hw (fun x w _ => h x w) hn
theorem tok_load {v : Value} (ty : TypeId) (y : Operand) (ho : o.op = .load ty y) (hd : o.dst ≠ some d) (hw : ∀ x, Region.wanted o (yielded ops (fam d a m x).tmps) = true) (h : ∀ x w, S x w → (Instr.loadAt ty ((fam d a m x).eval y)).run P w = .ok v w) (hn : wpTok P ops S d Q rest (a.put o.dst v) m) : wpTok P ops S d Q (o :: rest) a m :=
  tok_run hd hw (fun x w hS => by simp [execOp, ho, h x w hS, Result.andThen]) hn
theorem tok_call {v : Value} {f : FuncId} {args : Array Value} (hc : ∀ x w, S x w → Calls P f args w fun e w' => e = .returned v ∧ S x w') (hd : o.dst ≠ some d) (hw : ∀ x, Region.wanted o (yielded ops (fam d a m x).tmps) = true) (h : ∀ x w, (execOp (fam d a m x).eval o).run P w = .ok (.enter f args) w) (hn : wpTok P ops S d Q rest (a.put o.dst v) m) : wpTok P ops S d Q (o :: rest) a m :=
  ⟨some v, ⟨hd, .inl ⟨hw, fun x w hS => by rw [h x w]; exact ⟨v, rfl, hc x w hS⟩⟩⟩, hn⟩
theorem tok_make (hd : o.dst = some d) (hw : Region.wanted o (yielded ops a.tmps) = true) (h : ∀ x w, S x w → ∃ u w', (execOp a.eval o).run P w = .ok (.value u) w' ∧ S u w') (hn : wpTok P ops S d Q rest a true) : wpTok P ops S d Q (o :: rest) a false :=
  ⟨none, ⟨⟨hd, rfl⟩, .inl ⟨fun _ => hw, fun x w hS => by obtain ⟨u, w', e, hS'⟩ := h x w hS; show tokEnd P S x none ((execOp a.eval o).run P w); rw [e]; exact hS'⟩⟩, hn⟩
theorem tok_build {cells : Array Value} (ty : TypeId) (parts : Array (Nat × Operand)) (ho : o.op = .build ty parts) (vs : Array (Nat × Value)) (hv : ∀ x, (parts.map fun (i, y) => (i, (fam d a m x).eval y)) = vs) (hb : P.built ty vs.toList = some cells)
    (hd : o.dst ≠ some d) (hw : ∀ x, Region.wanted o (yielded ops (fam d a m x).tmps) = true) (hn : wpTok P ops S d Q rest (a.put o.dst (.agg cells)) m) : wpTok P ops S d Q (o :: rest) a m :=
  tok_pure hd hw (fun x w => by
    have h := run_build (P := P) w ty vs cells hb
    have e := hv x
    simp only [execOp, ho]
    rw [e]
    simp [h, Result.andThen]) hn
theorem tok_add {A B : List UInt8} (t1 t2 : TypeId) (p q : Operand) (ho : o.op = .binOp .add t1 p q t2) (hp : ∀ x, (fam d a m x).eval p = Sv A) (hq : ∀ x, (fam d a m x).eval q = Sv B) (hl : A.length + B.length ≤ 9223372036854775807)
    (hd : o.dst ≠ some d) (hw : ∀ x, Region.wanted o (yielded ops (fam d a m x).tmps) = true) (hn : wpTok P ops S d Q rest (a.put o.dst (Sv (A ++ B))) m) : wpTok P ops S d Q (o :: rest) a m :=
  tok_pure hd hw (fun x w => by
    have h := run_add_Sv (P := P) w t1 A B
    rw [if_neg (by omega)] at h
    simp [execOp, ho, hp x, hq x, eqGuard_at_Sv, h, Result.andThen]) hn
end
section
variable {P : Program} {ops : Array Oper} {S : World → Prop} {Q : Act → Prop} {a : Act} {o : Oper} {rest : List Oper}
theorem steady_add {A B : List UInt8} (t1 t2 : TypeId) (p q : Operand) (ho : o.op = .binOp .add t1 p q t2) (hp : a.eval p = Sv A) (hq : a.eval q = Sv B) (hl : A.length + B.length ≤ 9223372036854775807)
    (hw : Region.wanted o (yielded ops a.tmps) = true) (hn : wpSteady P ops S Q rest (a.put o.dst (Sv (A ++ B)))) : wpSteady P ops S Q (o :: rest) a :=
  steady_pure hw (fun w => by
    have h := run_add_Sv (P := P) w t1 A B
    rw [if_neg (by omega)] at h
    simp [execOp, ho, hp, hq, eqGuard_at_Sv, h, Result.andThen]) hn
end
theorem bel_call {P : Program} {W u : World} (s : Below W.heap.size W u) {f : FuncId} {args : Array Value} {v : Value} (k : Calls P f args u fun e u' => e = .returned v ∧ Below u.heap.size u u') :
    Calls P f args u fun e u' => e = .returned v ∧ Below W.heap.size W u' := k.mono fun _ _ ⟨he, hb⟩ => ⟨he, ext_trans s hb⟩
end Go.Proofs.YtgfdmdikiickpaaGreatDoor

/-! Chain -/
namespace Go.Proofs.YtgfdmdikiickpaaGreatDoor
open Go.RowKit

section
variable {P : Program} {ops : Array Oper} {md : Region.Mode} {S : List Value → World → Prop} {ds : List Tmp}
/-- The frame with what the chain has yielded so far. -/
def famC : List Tmp → Act → List Value → Act
  | d :: ds, a, x :: X => (famC ds a X).put (some d) x
  | _, a, _ => a
theorem famC_nil (a : Act) : famC ds a [] = a := by cases ds <;> rfl
theorem famC_put (a : Act) (X : List Value) {o : Option Tmp} (v : Value) (h : ∀ d ∈ ds, o ≠ some d) : (famC ds a X).put o v = famC ds (a.put o v) X := by
  induction ds generalizing X with
  | nil => cases X <;> rfl
  | cons d ds ih =>
    cases X with
    | nil => rfl
    | cons x X =>
      show ((famC ds a X).put (some d) x).put o v = (famC ds (a.put o v) X).put (some d) x
      rw [← ih X (fun e he => h e (List.mem_cons_of_mem _ he))]
      exact Act.put_comm _ _ _ (fun e he h2 => by injection he with he; subst he; exact h d (by simp) h2)
theorem famC_snoc (a : Act) : ∀ (ds : List Tmp) (X : List Value) (d : Tmp) (u : Value), ds.Nodup → ds[X.length]? = some d → (famC ds a X).put (some d) u = famC ds a (X ++ [u])
  | [], X, d, u, _, h => by simp at h
  | e :: ds, [], d, u, _, h => by
    have : e = d := by simpa using h
    subst this
    show a.put (some e) u = (famC ds a []).put (some e) u
    rw [famC_nil]
  | e :: ds, x :: X, d, u, hn, h => by
    have h' : ds[X.length]? = some d := by simpa using h
    have hne : e ≠ d := by
      rintro rfl
      exact (List.nodup_cons.1 hn).1 (List.mem_of_getElem? h')
    show ((famC ds a X).put (some e) x).put (some d) u = (famC ds a (X ++ [u])).put (some e) x
    rw [Act.put_comm _ _ _ (fun g hg h2 => by injection hg with hg; subst hg; injection h2 with h2; exact hne h2.symm), famC_snoc a ds X d u (List.nodup_cons.1 hn).2 h']
theorem famC_exec {o : Oper} (hs : ∀ cs b, o.op ≠ .select cs b) (a : Act) (X : List Value) (h : ∀ d ∈ ds, d ∉ o.looksAt ops) :
    execOp (famC ds a X).eval o = execOp a.eval o ∧ Region.wanted o (yielded ops (famC ds a X).tmps) = Region.wanted o (yielded ops a.tmps) := by
  induction ds generalizing X with
  | nil => cases X <;> exact ⟨rfl, rfl⟩
  | cons d ds ih =>
    cases X with
    | nil => exact ⟨rfl, rfl⟩
    | cons x X =>
      obtain ⟨h1, h2⟩ := ih X (fun e he => h e (List.mem_cons_of_mem _ he))
      have hd : ∀ e, (some d : Option Tmp) = some e → e ∉ o.looksAt ops := fun e he => by injection he with he; subst he; exact h d (by simp)
      exact ⟨(execOp_put o hs _ _ _ hd).trans h1, (wanted_put o _ _ _ hd).trans h2⟩
/-- What one run of an operation leaves. -/
def sideEnd (P : Program) (S : World → Prop) (v : Value) : Result Next → Prop
  | .ok (.value u) w => u = v ∧ S w
  | .ok .skip w => v = undef ∧ S w
  | .ok (.enter f args) w => Calls P f args w fun e w' => e = .returned v ∧ S w'
  | _ => False
def chainEnd (P : Program) (S : Value → World → Prop) : Result Next → Prop
  | .ok (.value u) w => S u w
  | .ok (.enter f args) w => Calls P f args w fun e w' => ∃ u, e = .returned u ∧ S u w'
  | _ => False
def Lnk (P : Program) (ops : Array Oper) (S : List Value → World → Prop) (ds : List Tmp) (o : Oper) (v : Option Value) (a : Act) (p : Nat) : Prop :=
  match v with
  | some v => (∀ d ∈ ds, o.dst ≠ some d ∧ d ∉ o.looksAt ops) ∧
    ((Region.wanted o (yielded ops a.tmps) = true ∧ ∀ X w, S X w → sideEnd P (S X) v ((execOp a.eval o).run P w)) ∨ (Region.wanted o (yielded ops a.tmps) = false ∧ v = undef))
  | none => (∃ d, ds[p]? = some d ∧ o.dst = some d) ∧ ∀ X, X.length = p → Region.wanted o (yielded ops (famC ds a X).tmps) = true ∧ ∀ w, S X w → chainEnd P (fun u => S (X ++ [u])) ((execOp (famC ds a X).eval o).run P w)
def nextP (p : Nat) (v : Option Value) : Nat := match v with
  | some _ => p
  | none => p + 1
def wpLnkS (P : Program) (md : Region.Mode) (ops : Array Oper) (S : List Value → World → Prop) (ds : List Tmp) (n : Nat) (L : Array Bool → Act → Nat → Prop) : Nat → Array Bool → Act → Nat → Prop
  | 0, listed, a, p => L listed a p
  | f + 1, listed, a, p => Region.ready md ops listed ≠ [] ∧ ∀ i ∈ Region.ready md ops listed, i < n ∧ ∀ o, ops[i]? = some o → ∃ v, Lnk P ops S ds o v a p ∧ wpLnkS P md ops S ds n L f (listed.setIfInBounds i true) (nextA a o v) (nextP p v)
theorem Lnk.op {i : Nat} {o : Oper} {v : Option Value} {a : Act} {p : Nat} {X : List Value} {w : World} {K : Act → World → Prop} {Q : Exit → Act → World → Prop} (hn : ds.Nodup) (hs : ∀ cs b, o.op ≠ .select cs b) (hi : ops[i]? = some o) (h : Lnk P ops S ds o v a p) (hX : X.length = p) (hS : S X w)
    (hK : ∀ Y w', Y.length = nextP p v → S Y w' → K (famC ds (nextA a o v) Y) w') : wpOp P ops Q i K (famC ds a X) w := by
  unfold wpOp
  simp only [hi]
  cases v with
  | some v =>
    obtain ⟨hd, h⟩ := h
    obtain ⟨e1, e2⟩ := famC_exec (ops := ops) hs a X (fun d hd' => (hd d hd').2)
    have eput : ∀ u, (famC ds a X).put o.dst u = famC ds (a.put o.dst u) X := fun u => famC_put a X u (fun d hd' => (hd d hd').1)
    rcases h with ⟨hw, hv⟩ | ⟨hw, rfl⟩
    · rw [if_pos (by rw [e2]; exact hw)]
      refine .inl ?_
      have h1 := hv X w hS
      unfold Oper.wp
      rw [e1]
      generalize (execOp a.eval o).run P w = r at h1
      cases r with
      | halt _ w' => exact h1.elim
      | ok n w' =>
        cases n with
        | value u =>
          obtain ⟨rfl, hS'⟩ := h1
          show K ((famC ds a X).put o.dst u) w'
          rw [eput]
          exact hK X w' hX hS'
        | skip =>
          obtain ⟨rfl, hS'⟩ := h1
          show K ((famC ds a X).put o.dst undef) w'
          rw [eput]
          exact hK X w' hX hS'
        | enter f args =>
          refine Calls.mono h1 ?_
          rintro _ w'' ⟨rfl, hS''⟩
          show K ((famC ds a X).put o.dst v) w''
          rw [eput]
          exact hK X w'' hX hS''
        | _ => exact h1.elim
    · rw [if_neg (by rw [e2, hw]; simp)]
      rw [eput]
      exact hK X w hX hS
  | none =>
    obtain ⟨⟨d, hd1, hd2⟩, h⟩ := h
    obtain ⟨hw, hv⟩ := h X hX
    rw [if_pos hw]
    refine .inl ?_
    have h1 := hv w hS
    have eput : ∀ u, (famC ds a X).put o.dst u = famC ds a (X ++ [u]) := fun u => by rw [hd2]; exact famC_snoc a ds X d u hn (by rw [hX]; exact hd1)
    unfold Oper.wp
    generalize (execOp (famC ds a X).eval o).run P w = r at h1
    cases r with
    | halt _ w' => exact h1.elim
    | ok n w' =>
      cases n with
      | value u =>
        show K ((famC ds a X).put o.dst u) w'
        rw [eput]
        exact hK _ w' (by simp [hX, nextP]) h1
      | enter f args =>
        refine Calls.mono h1 ?_
        rintro _ w'' ⟨u, rfl, hS''⟩
        show K ((famC ds a X).put o.dst u) w''
        rw [eput]
        exact hK _ w'' (by simp [hX, nextP]) hS''
      | _ => exact h1.elim
theorem wpAny_of_lnk {n g : Nat} {L : Array Bool → Act → Nat → Prop} {Q' : Exit → Act → World → Prop} (hn : ds.Nodup) (hsel : ∀ (j : Nat) (o : Oper) cs b, ops[j]? = some o → o.op ≠ .select cs b)
    (hL : ∀ listed a p X w, L listed a p → X.length = p → S X w → wpAny P md ops Q' g listed (famC ds a X) w) :
    ∀ (f : Nat) (listed : Array Bool) (a : Act) (p : Nat) (X : List Value) (w : World), wpLnkS P md ops S ds n L f listed a p → X.length = p → S X w → wpAny P md ops Q' (f + g) listed (famC ds a X) w
  | 0, listed, a, p, X, w, h, hX, hS => by rw [Nat.zero_add]; exact hL _ _ _ _ _ h hX hS
  | f + 1, listed, a, p, X, w, h, hX, hS => by
    rw [show f + 1 + g = (f + g) + 1 by omega]
    refine ⟨fun h0 => absurd h0 h.1, fun i hi => ?_⟩
    obtain ⟨_, o, ho, _⟩ := mem_ready.1 hi
    obtain ⟨v, h1, h2⟩ := (h.2 i hi).2 o ho
    exact h1.op hn (fun cs b => hsel i o cs b ho) ho hX hS fun Y w' hY hS' => wpAny_of_lnk hn hsel hL f _ _ _ Y w' h2 hY hS'
/-- The chain's operations wait for one another. -/
def chainD (md : Region.Mode) (ops : Array Oper) (ds : List Tmp) : Bool :=
  (List.range ops.size).all fun j => (List.range ops.size).all fun i => (List.range ds.length).all fun k =>
    match ops[i]?, ops[j]? with
    | some oi, some oj => !(oi.dst == ds[k]? && ds[k]?.isSome && oj.dst == ds[k + 1]? && ds[k + 1]?.isSome) || Region.waitsFor md ops j i
    | _, _ => true
theorem chainD_spec (h : chainD md ops ds = true) {i j : Nat} {oi oj : Oper} (hi : ops[i]? = some oi) (hj : ops[j]? = some oj) {k : Nat} {d e : Tmp} (hd : ds[k]? = some d) (he : ds[k + 1]? = some e) (h1 : oi.dst = some d) (h2 : oj.dst = some e) :
    Region.waitsFor md ops j i = true := by
  have hij : i < ops.size := (Array.getElem?_eq_some_iff.1 hi).1
  have hjj : j < ops.size := (Array.getElem?_eq_some_iff.1 hj).1
  have hk : k < ds.length := (List.getElem?_eq_some_iff.1 hd).1
  have h3 := List.all_eq_true.1 (List.all_eq_true.1 (List.all_eq_true.1 h j (List.mem_range.2 hjj)) i (List.mem_range.2 hij)) k (List.mem_range.2 hk)
  simp only [hi, hj, hd, he, h1, h2] at h3
  simpa using h3
theorem Lnk.back {o p : Oper} {v u : Option Value} {a : Act} {q : Nat} (hs : ∀ cs b, o.op ≠ .select cs b) (hp : Lnk P ops S ds p u a q) (h : ∀ e, p.dst = some e → e ∉ o.looksAt ops)
    (hno : ∀ k d e, ds[k]? = some d → ds[k + 1]? = some e → p.dst = some d → o.dst = some e → False)
    (hc : Lnk P ops S ds o v (nextA a p u) (nextP q u)) : Lnk P ops S ds o v a q := by
  cases u with
  | some u =>
    have hex := execOp_put (ops := ops) o hs
    cases v with
    | some v =>
      obtain ⟨hd, hc⟩ := hc
      refine ⟨hd, ?_⟩
      rcases hc with ⟨h1, h2⟩ | ⟨h1, h2⟩
      · refine .inl ⟨by rw [← wanted_put o a p.dst u h]; exact h1, fun X w hS => ?_⟩
        rw [← hex a p.dst u h]
        exact h2 X w hS
      · exact .inr ⟨by rw [← wanted_put o a p.dst u h]; exact h1, h2⟩
    | none =>
      obtain ⟨hd, hc⟩ := hc
      refine ⟨hd, fun X hX => ?_⟩
      obtain ⟨h1, h2⟩ := hc X hX
      have e : famC ds (a.put p.dst u) X = (famC ds a X).put p.dst u := (famC_put a X u (fun d hd' => (hp.1 d hd').1)).symm
      simp only [nextA] at h1 h2
      rw [e] at h1 h2
      refine ⟨by rw [← wanted_put o _ p.dst u h]; exact h1, fun w hS => ?_⟩
      rw [← hex _ p.dst u h]
      exact h2 w hS
  | none =>
    cases v with
    | some v => exact hc
    | none =>
      obtain ⟨⟨d, hd1, hd2⟩, _⟩ := hp
      obtain ⟨⟨e, he1, he2⟩, _⟩ := hc
      exact (hno q d e hd1 he1 hd2 he2).elim
theorem Lnk.forth {o p : Oper} {v u : Option Value} {a : Act} {q : Nat} (hs : ∀ cs b, o.op ≠ .select cs b) (hp : Lnk P ops S ds p u a q) (h : ∀ e, p.dst = some e → e ∉ o.looksAt ops) (hne : ∀ e, p.dst = some e → o.dst ≠ some e)
    (hc : Lnk P ops S ds o v a q) : Lnk P ops S ds o v (nextA a p u) (nextP q u) := by
  cases u with
  | some u =>
    have hex := execOp_put (ops := ops) o hs
    cases v with
    | some v =>
      obtain ⟨hd, hc⟩ := hc
      refine ⟨hd, ?_⟩
      rcases hc with ⟨h1, h2⟩ | ⟨h1, h2⟩
      · refine .inl ⟨by simp only [nextA]; rw [wanted_put o a p.dst u h]; exact h1, fun X w hS => ?_⟩
        simp only [nextA]
        rw [hex a p.dst u h]
        exact h2 X w hS
      · exact .inr ⟨by simp only [nextA]; rw [wanted_put o a p.dst u h]; exact h1, h2⟩
    | none =>
      obtain ⟨hd, hc⟩ := hc
      refine ⟨hd, fun X hX => ?_⟩
      obtain ⟨h1, h2⟩ := hc X hX
      have e : famC ds (a.put p.dst u) X = (famC ds a X).put p.dst u := (famC_put a X u (fun d hd' => (hp.1 d hd').1)).symm
      simp only [nextA]
      rw [e]
      refine ⟨by rw [wanted_put o _ p.dst u h]; exact h1, fun w hS => ?_⟩
      rw [hex _ p.dst u h]
      exact h2 w hS
  | none =>
    cases v with
    | some v => exact hc
    | none =>
      obtain ⟨⟨d, hd1, hd2⟩, _⟩ := hp
      obtain ⟨⟨e, he1, he2⟩, _⟩ := hc
      rw [hd1] at he1
      injection he1 with he1
      subst he1
      exact (hne d hd2 he2).elim
theorem nextP_comm {o p : Oper} {v u : Option Value} {a : Act} {q : Nat} (h : ∀ e, o.dst = some e → p.dst ≠ some e) : nextA (nextA a o v) p u = nextA (nextA a p u) o v ∧ nextP (nextP q v) u = nextP (nextP q u) v := by
  cases v <;> cases u <;> first | exact ⟨rfl, rfl⟩ | exact ⟨Act.put_comm a _ _ h, rfl⟩
theorem wpLnkS_first {n i : Nat} {oi : Oper} {v : Option Value} {L : Array Bool → Act → Nat → Prop} (hcd : chainD md ops ds = true) (hi : ops[i]? = some oi) (hsel : ∀ (j : Nat) (o : Oper) cs b, ops[j]? = some o → o.op ≠ .select cs b)
    (hs : Region.sinkB md ops n = true) (hc : Region.chainB md ops n = true) (hn : n < ops.size) (hin : i < n)
    (hdone : ∀ listed a p, L listed a p → ∀ j ∈ Region.ready md ops listed, n ≤ j) :
    ∀ (f : Nat) (listed : Array Bool) (a : Act) (p : Nat), HeadInv md ops n listed →
      (∀ j oj, ops[j]? = some oj → j ≠ i → listed.getD j true = false → (∀ e ∈ oj.after, Region.binds md e = true → e.on ≠ i) → oi.apart ops oj = true) →
      i ∈ Region.ready md ops listed → Lnk P ops S ds oi v a p →
      wpLnkS P md ops S ds n L f (listed.setIfInBounds i true) (nextA a oi v) (nextP p v) → wpLnkS P md ops S ds n L (f + 1) listed a p := by
  intro f
  induction f with
  | zero =>
    intro listed a p inv _ hr hy H
    have hun := (mem_ready.1 hr).1
    refine ⟨fun h => (by rw [h] at hr; cases hr), fun j hj => ?_⟩
    have hjn : j < n := by
      rcases Nat.lt_or_ge j n with h | h
      · exact h
      · exact absurd hj (tail_waits hs hc hn inv _ i rfl hin hun j h)
    refine ⟨hjn, fun q hq => ?_⟩
    by_cases hji : j = i
    · subst hji
      obtain rfl := Option.some.inj (hi.symm.trans hq)
      exact ⟨v, hy, H⟩
    · have := hdone _ _ _ H j (ready_mono hj hji)
      omega
  | succ f ih =>
    intro listed a p inv hfree hr hy H
    have hun := (mem_ready.1 hr).1
    refine ⟨fun h => (by rw [h] at hr; cases hr), fun j hj => ?_⟩
    have hjn : j < n := by
      rcases Nat.lt_or_ge j n with h | h
      · exact h
      · exact absurd hj (tail_waits hs hc hn inv _ i rfl hin hun j h)
    refine ⟨hjn, fun q hq => ?_⟩
    by_cases hji : j = i
    · subst hji
      obtain rfl := Option.some.inj (hi.symm.trans hq)
      exact ⟨v, hy, H⟩
    · obtain ⟨hjun, oj, hoj, hall⟩ := mem_ready.1 hj
      obtain rfl := Option.some.inj (hoj.symm.trans hq)
      have hnot : ∀ e ∈ oj.after, Region.binds md e = true → e.on ≠ i := fun e he hb heq => by
        have h1 := hall e he hb
        rw [heq, getD_both hun] at h1
        cases h1
      obtain ⟨d1, d2, d3⟩ := Oper.apart_spec (hfree j oj hoj hji hjun hnot)
      obtain ⟨u, hu, Hu⟩ := (H.2 j (ready_mono hj hji)).2 oj hoj
      have hu' := Lnk.back (fun cs b => hsel j oj cs b hoj) hy d1 (fun k d e hd he h1 h2 => by
        obtain ⟨o', ho', x, hx, hb, hon⟩ := Region.waitsFor_spec (chainD_spec hcd hi hoj hd he h1 h2)
        obtain rfl := Option.some.inj (hoj.symm.trans ho')
        exact hnot x hx hb hon) hu
      have hfree' : ∀ k ok, ops[k]? = some ok → k ≠ i → (listed.setIfInBounds j true).getD k true = false →
          (∀ e ∈ ok.after, Region.binds md e = true → e.on ≠ i) → oi.apart ops ok = true := fun k ok hk hki hun hno => by
        refine hfree k ok hk hki ?_ hno
        by_cases hjk : j = k
        · subst hjk; exact hjun
        · rw [getD_set_ne true hjk] at hun; exact hun
      refine ⟨u, hu', ih _ _ _ (inv.set hj hjn) hfree' (ready_mono hr (Ne.symm hji)) (Lnk.forth (fun cs b => hsel i oi cs b hi) hu' d3 (fun e he h2 => d2 e h2 he) hy) ?_⟩
      obtain ⟨e1, e2⟩ := nextP_comm (a := a) (q := p) (v := v) (u := u) d2
      rw [Array.setIfInBounds_comm _ _ hji, ← e1, ← e2]
      exact Hu
/-- The walk in the text's order. -/
def wpLnk (P : Program) (ops : Array Oper) (S : List Value → World → Prop) (ds : List Tmp) (Q : Act → Nat → Prop) : List Oper → Act → Nat → Prop
  | [], a, p => Q a p
  | o :: rest, a, p => ∃ v, Lnk P ops S ds o v a p ∧ wpLnk P ops S ds Q rest (nextA a o v) (nextP p v)
theorem wpLnkS_lex {n g : Nat} {Lq : Act → Nat → Prop} (hcd : chainD md ops ds = true) (hsel : Region.noSelect ops = true) (hs : Region.sinkB md ops n = true) (hc : Region.chainB md ops n = true) (hn : n < ops.size) :
    ∀ (l : List Oper) (k : Nat) (listed : Array Bool) (a : Act) (p : Nat), (∀ j, j < l.length → l[j]? = ops[k + j]?) → k + l.length = n → HeadInv md ops n listed →
    Region.lexHead md ops g l.length k listed = true → wpLnk P ops S ds Lq l a p →
    wpLnkS P md ops S ds n (fun listed' a' p' => Region.seqB md ops g n listed' = true ∧ Lq a' p') l.length listed a p
  | [], k, listed, a, p, _, hk, _, hB, h => by
    have : k = n := by simpa using hk
    subst this
    exact ⟨by simpa [Region.lexHead] using hB, h⟩
  | o :: l, k, listed, a, p, hl, hk, inv, hB, ⟨v, hv, h⟩ => by
    have h0 : ops[k]? = some o := by simpa using (hl 0 (by simp)).symm
    simp only [List.length_cons, Region.lexHead, Bool.and_eq_true] at hB
    obtain ⟨⟨hr, hf⟩, hB'⟩ := hB
    have hkn : k < n := by simp only [List.length_cons] at hk; omega
    have hr' : k ∈ Region.ready md ops listed := by simpa using hr
    exact wpLnkS_first hcd h0 (Region.noSelect_spec hsel) hs hc hn hkn (fun listed a p hL => seqB_ready hL.1) _ _ _ _ inv (Region.free_spec h0 hf) hr' hv
      (wpLnkS_lex hcd hsel hs hc hn l (k + 1) _ _ _ (fun j hj => by have := hl (j + 1) (by simp; omega); simpa [Nat.add_assoc, Nat.add_comm 1 j] using this) (by simp only [List.length_cons] at hk; omega) (inv.set hr' hkn) hB' h)
/-- THE LAW. -/
theorem region_chain {id : Nat} {Q : Exit → Act → World → Prop} {a : Act} {w : World} {l : List Oper} (S : List Value → World → Prop) (ds : List Tmp) (n : Nat) (hm : P.follows .mixedOrders = true) (hB : (Region.lexTailB .any l.toArray n && chainD .any l.toArray ds && decide ds.Nodup) = true) (hS : S [] w.drew)
    (h : wpLnk P l.toArray S ds (fun a' p => ∀ X w', X.length = p → S X w' → wpList P l.toArray Q (l.drop n) (famC ds a' X) w') (l.take n) a 0) : (Code.region id l.toArray true).wp P Q a w := by
  simp only [Region.lexTailB, Bool.and_eq_true, decide_eq_true_eq] at hB
  obtain ⟨⟨⟨⟨⟨⟨hsel, hn⟩, hs⟩, hc⟩, hlex⟩, hcd⟩, hnd⟩ := hB
  have hn' : n < l.length := by simpa using hn
  have htl : (l.take n).length = n := by simp; omega
  have hdl : (l.drop n).length = l.toArray.size - n := by simp
  have inv0 : HeadInv .any l.toArray n (Array.replicate l.toArray.size false) :=
    ⟨by simp, fun j oj _ hl => (by rw [getD_replicate_false] at hl; cases hl), fun t _ ht => getD_in (by simpa using ht) (getD_replicate_false _ _)⟩
  have H := wpLnkS_lex (md := .any) (g := l.toArray.size - n) hcd hsel hs hc hn (l.take n) 0 _ a 0 (fun j hj => by
    have hj' : j < n := by rw [htl] at hj; exact hj
    simp [hj']) (by simpa using htl) inv0 (by rw [htl]; exact hlex) h
  refine wp_region_any hm ?_
  have := wpAny_of_lnk (Q' := Q) (g := l.toArray.size - n) hnd (Region.noSelect_spec hsel) (fun listed a' p' X' w' hL hX' hS' => by
    have := wpAny_of_seq (md := .any) (Q' := Q) (l.drop n) n listed (famC ds a' X') w' (fun j => by simp [List.getElem?_drop]) (by rw [hdl]; exact hL.1) (hL.2 X' w' hX' hS')
    rwa [hdl] at this) _ _ _ _ [] _ H rfl hS
  rw [htl, show n + (l.toArray.size - n) = l.toArray.size by omega, famC_nil] at this
  exact this
variable {Q : Act → Nat → Prop} {a : Act} {p : Nat} {o : Oper} {rest : List Oper}
theorem ch_nil (h : Q a p) : wpLnk P ops S ds Q [] a p := h
theorem ch_off (hd : ∀ d ∈ ds, o.dst ≠ some d ∧ d ∉ o.looksAt ops) (hw : Region.wanted o (yielded ops a.tmps) = false) (hn : wpLnk P ops S ds Q rest (a.put o.dst undef) p) : wpLnk P ops S ds Q (o :: rest) a p :=
  ⟨some undef, ⟨hd, .inr ⟨hw, rfl⟩⟩, hn⟩
theorem ch_run {v : Value} (hd : ∀ d ∈ ds, o.dst ≠ some d ∧ d ∉ o.looksAt ops) (hw : Region.wanted o (yielded ops a.tmps) = true) (h : ∀ X w, S X w → (execOp a.eval o).run P w = .ok (.value v) w) (hn : wpLnk P ops S ds Q rest (a.put o.dst v) p) : wpLnk P ops S ds Q (o :: rest) a p :=
  ⟨some v, ⟨hd, .inl ⟨hw, fun X w hS => by rw [h X w hS]; exact ⟨rfl, hS⟩⟩⟩, hn⟩
theorem ch_pure {v : Value} (hd : ∀ d ∈ ds, o.dst ≠ some d ∧ d ∉ o.looksAt ops) (hw : Region.wanted o (yielded ops a.tmps) = true) (h : ∀ w, (execOp a.eval o).run P w = .ok (.value v) w) (hn : wpLnk P ops S ds Q rest (a.put o.dst v) p) : wpLnk P ops S ds Q (o :: rest) a p :=
  ch_run hd hw (fun _ w _ => h w) hn
theorem ch_load {v : Value} (ty : TypeId) (y : Operand) (ho : o.op = .load ty y) (hd : ∀ d ∈ ds, o.dst ≠ some d ∧ d ∉ o.looksAt ops) (hw : Region.wanted o (yielded ops a.tmps) = true) (h : ∀ X w, S X w → (Instr.loadAt ty (a.eval y)).run P w = .ok v w) (hn : wpLnk P ops S ds Q rest (a.put o.dst v) p) : wpLnk P ops S ds Q (o :: rest) a p :=
  ch_run hd hw (fun X w hS => by simp [execOp, ho, h X w hS, Result.andThen]) hn
theorem ch_call {v : Value} {f : FuncId} {args : Array Value} (hc : ∀ X w, S X w → Calls P f args w fun e w' => e = .returned v ∧ S X w') (hd : ∀ d ∈ ds, o.dst ≠ some d ∧ d ∉ o.looksAt ops) (hw : Region.wanted o (yielded ops a.tmps) = true) (h : ∀ w, (execOp a.eval o).run P w = .ok (.enter f args) w) (hn : wpLnk P ops S ds Q rest (a.put o.dst v) p) : wpLnk P ops S ds Q (o :: rest) a p :=
  ⟨some v, ⟨hd, .inl ⟨hw, fun X w hS => by rw [h w]; exact hc X w hS⟩⟩, hn⟩
theorem ch_make0 (hd : ∃ d, ds[0]? = some d ∧ o.dst = some d) (hw : Region.wanted o (yielded ops a.tmps) = true) (h : ∀ w, S [] w → chainEnd P (fun u => S [u]) ((execOp a.eval o).run P w)) (hn : wpLnk P ops S ds Q rest a 1) : wpLnk P ops S ds Q (o :: rest) a 0 :=
  ⟨none, ⟨hd, fun X hX => by
    obtain rfl := List.eq_nil_of_length_eq_zero hX
    rw [famC_nil]
    exact ⟨hw, h⟩⟩, hn⟩
theorem ch_make1 (hd : ∃ d, ds[1]? = some d ∧ o.dst = some d) (hw : ∀ x, Region.wanted o (yielded ops (famC ds a [x]).tmps) = true) (h : ∀ x w, S [x] w → chainEnd P (fun u => S [x, u]) ((execOp (famC ds a [x]).eval o).run P w)) (hn : wpLnk P ops S ds Q rest a 2) : wpLnk P ops S ds Q (o :: rest) a 1 :=
  ⟨none, ⟨hd, fun X hX => by
    match X, hX with
    | [x], _ => exact ⟨hw x, h x⟩⟩, hn⟩
theorem ch_make2 (hd : ∃ d, ds[2]? = some d ∧ o.dst = some d) (hw : ∀ x y, Region.wanted o (yielded ops (famC ds a [x, y]).tmps) = true) (h : ∀ x y w, S [x, y] w → chainEnd P (fun u => S [x, y, u]) ((execOp (famC ds a [x, y]).eval o).run P w)) (hn : wpLnk P ops S ds Q rest a 3) : wpLnk P ops S ds Q (o :: rest) a 2 :=
  ⟨none, ⟨hd, fun X hX => by
    match X, hX with
    | [x, y], _ => exact ⟨hw x y, h x y⟩⟩, hn⟩
theorem chainEnd_value {S : Value → World → Prop} {r : Result Next} {u : Value} {w : World} (h : r = .ok (.value u) w) (hS : S u w) : chainEnd P S r := by rw [h]; exact hS
theorem chainEnd_enter {S : Value → World → Prop} {r : Result Next} {f : FuncId} {args : Array Value} {w : World} (h : r = .ok (.enter f args) w) (hc : Calls P f args w fun e w' => ∃ u, e = .returned u ∧ S u w') : chainEnd P S r := by rw [h]; exact hc
end
end Go.Proofs.YtgfdmdikiickpaaGreatDoor

/-! TokenM -/
namespace Go.Proofs.YtgfdmdikiickpaaGreatDoor
open Go.RowKit

section
variable {P : Program} {ops : Array Oper} {md : Region.Mode} {S : Bool → Value → World → Prop} {d : Tmp}
/-- What one run of an operation leaves: the value v (none: a new token), and a world that meets S. -/
def tokEndM (P : Program) (S : Bool → Value → World → Prop) (b : Bool) (x : Value) (v : Option Value) : Result Next → Prop
  | .ok (.value u) w => match v with
    | some v => u = v ∧ S b x w
    | none => S true u w
  | .ok .skip w => v = some undef ∧ S b x w
  | .ok (.enter f args) w => ∃ u, v = some u ∧ Calls P f args w fun e w' => e = .returned u ∧ S b x w'
  | _ => False
def TokM (P : Program) (ops : Array Oper) (S : Bool → Value → World → Prop) (d : Tmp) (o : Oper) (v : Option Value) (a : Act) (m : Bool) : Prop :=
  (match v with
    | some _ => o.dst ≠ some d
    | none => o.dst = some d ∧ m = false) ∧
  (((∀ x, Region.wanted o (yielded ops (fam d a m x).tmps) = true) ∧ (∀ b x w, (v = none → b = false) → S b x w → tokEndM P S b x v ((execOp (fam d a m x).eval o).run P w))) ∨
  ((∀ x, Region.wanted o (yielded ops (fam d a m x).tmps) = false) ∧ v = some undef))
theorem fam_nextM {a : Act} {m : Bool} {o : Oper} {v : Option Value} {x y : Value} (h : TokM P ops S d o v a m) (hv : v = none → x = y) : ∀ u, (match v with | some v => u = v | none => u = x) →
    (fam d a m y).put o.dst u = fam d (nextA a o v) (nextM m v) (match v with | some _ => y | none => u) := by
  intro u hu
  cases v with
  | some v =>
    obtain rfl := hu
    cases m with
    | true => exact (Act.put_comm a y u (fun e he => by injection he with he; subst he; exact h.1)) 
    | false => rfl
  | none =>
    obtain rfl := hu
    obtain ⟨⟨h1, h2⟩, _⟩ := h
    subst h2
    show (a.put o.dst u) = a.put (some d) u
    rw [h1]
/-- All orders from here on. -/
def wpTokMS (P : Program) (md : Region.Mode) (ops : Array Oper) (S : Bool → Value → World → Prop) (d : Tmp) (Q : Act → Bool → Prop) : Nat → Array Bool → Act → Bool → Prop
  | 0, listed, a, m => Region.ready md ops listed = [] ∧ Q a m
  | f + 1, listed, a, m => (Region.ready md ops listed = [] → Q a m) ∧ ∀ i ∈ Region.ready md ops listed, ∀ o, ops[i]? = some o → ∃ v, TokM P ops S d o v a m ∧ wpTokMS P md ops S d Q f (listed.setIfInBounds i true) (nextA a o v) (nextM m v)
theorem TokM.op {i : Nat} {o : Oper} {v : Option Value} {a : Act} {m : Bool} {x : Value} {w : World} {K : Act → World → Prop} {Q : Exit → Act → World → Prop} (hi : ops[i]? = some o) (h : TokM P ops S d o v a m) (hS : S m x w)
    (hK : ∀ y w', S (nextM m v) y w' → K (fam d (nextA a o v) (nextM m v) y) w') : wpOp P ops Q i K (fam d a m x) w := by
  unfold wpOp
  simp only [hi]
  have hn := fun (y : Value) (hv : v = none → y = x) u hu => fam_nextM (x := y) (y := x) h hv u hu
  rcases h.2 with ⟨hw, hv⟩ | ⟨hw, rfl⟩
  · rw [if_pos (hw x)]
    refine .inl ?_
    have h1 := hv m x w (fun e => by subst e; exact h.1.2) hS
    unfold Oper.wp
    generalize (execOp (fam d a m x).eval o).run P w = r at h1
    cases r with
    | halt _ w' => exact h1.elim
    | ok n w' =>
      cases n with
      | value u =>
        cases v with
        | some v =>
          obtain ⟨rfl, hS'⟩ := h1
          show K ((fam d a m x).put o.dst u) w'
          rw [fam_nextM (x := x) (y := x) h (fun _ => rfl) u rfl]
          exact hK x w' hS'
        | none =>
          show K ((fam d a m x).put o.dst u) w'
          obtain ⟨⟨e1, e2⟩, _⟩ := h
          subst e2
          have hh := hK u w' h1
          have e : (fam d a false x).put o.dst u = fam d (nextA a o none) (nextM false none) u := by
            show a.put o.dst u = a.put (some d) u
            rw [e1]
          rw [e]; exact hh
      | skip =>
        obtain ⟨rfl, h2⟩ := h1
        have e := fam_nextM (x := x) (y := x) h (fun _ => rfl) undef rfl
        show K ((fam d a m x).put o.dst undef) w'
        rw [e]
        exact hK x w' h2
      | enter f args =>
        obtain ⟨u, rfl, hc⟩ := h1
        have e := fam_nextM (x := x) (y := x) h (fun _ => rfl) u rfl
        refine Calls.mono hc ?_
        rintro _ w'' ⟨rfl, hS''⟩
        show K ((fam d a m x).put o.dst u) w''
        rw [e]
        exact hK x w'' hS''
      | _ => exact h1.elim
  · rw [if_neg (by simp [hw x])]
    have e := fam_nextM (x := x) (y := x) h (fun _ => rfl) undef rfl
    rw [e]
    exact hK x w hS
theorem wpAny_of_tokSM {Q : Exit → Act → World → Prop} {q : Act → Bool → Prop} (hq : ∀ a m x w, q a m → S m x w → Q .normal (fam d a m x) w) : ∀ (f : Nat) (listed : Array Bool) (a : Act) (m : Bool) (x : Value) (w : World), wpTokMS P md ops S d q f listed a m → S m x w → wpAny P md ops Q f listed (fam d a m x) w
  | 0, _, a, m, x, w, h, hS => ⟨h.1, hq a m x w h.2 hS⟩
  | f + 1, listed, a, m, x, w, h, hS => by
    refine ⟨fun h0 => hq a m x w (h.1 h0) hS, fun i hi => ?_⟩
    obtain ⟨_, o, ho, _⟩ := mem_ready.1 hi
    obtain ⟨v, h1, h2⟩ := h.2 i hi o ho
    exact h1.op ho hS fun y w' hS' => wpAny_of_tokSM hq f _ _ _ y w' h2 hS'
theorem eval_famM {o p : Oper} {_v u : Option Value} {a : Act} {m : Bool} (hs : ∀ cs b, o.op ≠ .select cs b) (hp : TokM P ops S d p u a m) (h : ∀ e, p.dst = some e → e ∉ o.looksAt ops) (x : Value) :
    execOp (fam d (nextA a p u) (nextM m u) x).eval o = execOp (fam d a m x).eval o ∧ Region.wanted o (yielded ops (fam d (nextA a p u) (nextM m u) x).tmps) = Region.wanted o (yielded ops (fam d a m x).tmps) := by
  cases u with
  | some u =>
    have e := fam_nextM (x := x) (y := x) hp (fun _ => rfl) u rfl
    simp only at e
    rw [← e]
    exact ⟨execOp_put o hs _ _ _ h, wanted_put o _ _ _ h⟩
  | none =>
    obtain ⟨⟨e1, e2⟩, _⟩ := hp
    subst e2
    show execOp (a.put (some d) x).eval o = execOp a.eval o ∧ Region.wanted o (yielded ops (a.put (some d) x).tmps) = Region.wanted o (yielded ops a.tmps)
    rw [← e1]
    exact ⟨execOp_put o hs _ _ _ h, wanted_put o _ _ _ h⟩
/-- What an operation does is the same before and behind another that it does not look at. -/
theorem TokM.back {o p : Oper} {v u : Option Value} {a : Act} {m : Bool} (hs : ∀ cs b, o.op ≠ .select cs b) (hp : TokM P ops S d p u a m) (h : ∀ e, p.dst = some e → e ∉ o.looksAt ops)
    (hc : TokM P ops S d o v (nextA a p u) (nextM m u)) : TokM P ops S d o v a m := by
  refine ⟨?_, ?_⟩
  · cases v with
    | some v => exact hc.1
    | none =>
      refine ⟨hc.1.1, ?_⟩
      have := hc.1.2
      cases u with
      | some u => exact this
      | none => exact absurd this (by simp [nextM])
  · rcases hc.2 with ⟨h1, h2⟩ | ⟨h1, h2⟩
    · exact .inl ⟨fun x => by rw [← (eval_famM (_v := v) hs hp h x).2]; exact h1 x, fun b x w hb hS => by rw [← (eval_famM (_v := v) hs hp h x).1]; exact h2 b x w hb hS⟩
    · exact .inr ⟨fun x => by rw [← (eval_famM (_v := v) hs hp h x).2]; exact h1 x, h2⟩
theorem TokM.forth {o p : Oper} {v u : Option Value} {a : Act} {m : Bool} (hs : ∀ cs b, o.op ≠ .select cs b) (hp : TokM P ops S d p u a m) (h : ∀ e, p.dst = some e → e ∉ o.looksAt ops) (hne : ∀ e, p.dst = some e → o.dst ≠ some e)
    (hc : TokM P ops S d o v a m) : TokM P ops S d o v (nextA a p u) (nextM m u) := by
  refine ⟨?_, ?_⟩
  · cases v with
    | some v => exact hc.1
    | none =>
      refine ⟨hc.1.1, ?_⟩
      cases u with
      | some u => exact hc.1.2
      | none => exact absurd hc.1.1 (hne d hp.1.1)
  · rcases hc.2 with ⟨h1, h2⟩ | ⟨h1, h2⟩
    · exact .inl ⟨fun x => by rw [(eval_famM (_v := v) hs hp h x).2]; exact h1 x, fun b x w hb hS => by rw [(eval_famM (_v := v) hs hp h x).1]; exact h2 b x w hb hS⟩
    · exact .inr ⟨fun x => by rw [(eval_famM (_v := v) hs hp h x).2]; exact h1 x, h2⟩
theorem next_commM {o p : Oper} {v u : Option Value} {a : Act} {m : Bool} (h : ∀ e, o.dst = some e → p.dst ≠ some e) : nextA (nextA a o v) p u = nextA (nextA a p u) o v ∧ nextM (nextM m v) u = nextM (nextM m u) v := by
  cases v <;> cases u <;> first | exact ⟨rfl, rfl⟩ | exact ⟨Act.put_comm a _ _ h, rfl⟩
theorem wpTokMS_first {Q : Act → Bool → Prop} {i : Nat} {o : Oper} {v : Option Value} (hi : ops[i]? = some o) (hsel : ∀ (j : Nat) (o : Oper) cs b, ops[j]? = some o → o.op ≠ .select cs b) :
    ∀ (f : Nat) (listed : Array Bool) (a : Act) (m : Bool),
      (∀ j p, ops[j]? = some p → j ≠ i → listed.getD j true = false → (∀ e ∈ p.after, Region.binds md e = true → e.on ≠ i) → o.apart ops p = true) →
      i ∈ Region.ready md ops listed → TokM P ops S d o v a m → wpTokMS P md ops S d Q f (listed.setIfInBounds i true) (nextA a o v) (nextM m v) → wpTokMS P md ops S d Q (f + 1) listed a m := by
  intro f
  induction f with
  | zero =>
    intro listed a m _ hr hst H
    refine ⟨fun h0 => absurd hr (by rw [h0]; simp), fun j hj p hp => ?_⟩
    rcases Nat.decEq j i with hji | hji
    · have h1 := ready_mono hj hji
      rw [H.1] at h1
      exact absurd h1 (by simp)
    · subst hji
      obtain rfl := Option.some.inj (hi.symm.trans hp)
      exact ⟨v, hst, H⟩
  | succ f ih =>
    intro listed a m hfree hr hst H
    refine ⟨fun h0 => absurd hr (by rw [h0]; simp), fun j hj p hp => ?_⟩
    rcases Nat.decEq j i with hji | hji
    · obtain ⟨hun, p', hp', hall⟩ := mem_ready.1 hj
      obtain rfl := Option.some.inj (hp'.symm.trans hp)
      have hun0 := (mem_ready.1 hr).1
      have hno : ∀ e ∈ p'.after, Region.binds md e = true → e.on ≠ i := by
        intro e he hb heq
        have h1 := hall e he hb
        rw [heq] at h1
        by_cases hlt : i < listed.size
        · simp [hlt] at hun0 h1
          rw [hun0] at h1; cases h1
        · simp [Array.getElem?_eq_none (Nat.not_lt.1 hlt)] at h1
      obtain ⟨d1, d2, d3⟩ := Oper.apart_spec (hfree j p' hp hji hun hno)
      obtain ⟨u, hu, Hu⟩ := H.2 j (ready_mono hj hji) p' hp
      have hu' := TokM.back (fun cs b => hsel j p' cs b hp) hst d1 hu
      refine ⟨u, hu', ih _ _ _ ?_ (ready_mono hr (Ne.symm hji)) (TokM.forth (fun cs b => hsel i o cs b hi) hu' d3 (fun e he h2 => d2 e h2 he) hst) ?_⟩
      · intro k q hq hki hun' hno'
        refine hfree k q hq hki ?_ hno'
        rcases Nat.decEq j k with hjk | hjk
        · rwa [getD_set_ne true hjk] at hun'
        · exact hjk ▸ hun
      · obtain ⟨e1, e2⟩ := next_commM (a := a) (m := m) (v := v) (u := u) d2
        rw [Array.setIfInBounds_comm _ _ hji, ← e1, ← e2]
        exact Hu
    · subst hji
      obtain rfl := Option.some.inj (hi.symm.trans hp)
      exact ⟨v, hst, H⟩
/-- The walk in the text's order. -/
def wpTokM (P : Program) (ops : Array Oper) (S : Bool → Value → World → Prop) (d : Tmp) (Q : Act → Bool → Prop) : List Oper → Act → Bool → Prop
  | [], a, m => Q a m
  | o :: rest, a, m => ∃ v, TokM P ops S d o v a m ∧ wpTokM P ops S d Q rest (nextA a o v) (nextM m v)
theorem wpTokMS_lex {Q : Act → Bool → Prop} (hs : Region.noSelect ops = true) : ∀ (l : List Oper) (k : Nat) (listed : Array Bool) (a : Act) (m : Bool), (∀ j, l[j]? = ops[k + j]?) →
    Region.lexFrom md ops l.length k listed = true → wpTokM P ops S d Q l a m → wpTokMS P md ops S d Q l.length listed a m
  | [], _, _, _, _, _, hB, h => ⟨by simpa [Region.lexFrom] using hB, h⟩
  | o :: l, k, listed, a, m, hl, hB, ⟨v, hv, h⟩ => by
    simp only [List.length_cons, Region.lexFrom, Bool.and_eq_true] at hB
    have h0 : ops[k]? = some o := by simpa using (hl 0).symm
    have hl' : ∀ j, l[j]? = ops[k + 1 + j]? := fun j => by
      have := hl (j + 1)
      rw [List.getElem?_cons_succ] at this
      rw [this, show k + (j + 1) = k + 1 + j by omega]
    exact wpTokMS_first h0 (Region.noSelect_spec hs) _ _ _ _ (Region.free_spec h0 hB.1.2) (by simpa using hB.1.1) hv (wpTokMS_lex hs l (k + 1) _ _ _ hl' hB.2 h)
/-- THE LAW. -/
theorem region_tokenM {id : Nat} {Q : Exit → Act → World → Prop} {a : Act} {w : World} {l : List Oper} (S : Bool → Value → World → Prop) (d : Tmp) (x : Value) (hm : P.follows .mixedOrders = true) (hB : Region.lexB .any l.toArray = true) (hS : S false x w.drew)
    (h : wpTokM P l.toArray S d (fun a' m => ∀ y w', S m y w' → Q .normal (fam d a' m y) w') l a false) : (Code.region id l.toArray true).wp P Q a w := by
  simp only [Region.lexB, Bool.and_eq_true] at hB
  refine wp_region_any hm (wpAny_of_tokSM (q := fun a' m => ∀ y w', S m y w' → Q .normal (fam d a' m y) w') (a := a) (m := false) (d := d) (fun a m x w h hS => h x w hS) _ _ x _ ?_ hS)
  have := wpTokMS_lex (md := .any) hB.1 l 0 (Array.replicate l.toArray.size false) a false (by simp) (by simpa using hB.2) h
  simpa using this
/-- The same with a tail of one forced order, which may write. -/
def wpTokML (P : Program) (md : Region.Mode) (ops : Array Oper) (S : Bool → Value → World → Prop) (d : Tmp) (n : Nat) (L : Array Bool → Act → Bool → Prop) : Nat → Array Bool → Act → Bool → Prop
  | 0, listed, a, m => L listed a m
  | f + 1, listed, a, m => Region.ready md ops listed ≠ [] ∧ ∀ i ∈ Region.ready md ops listed, i < n ∧ ∀ o, ops[i]? = some o → ∃ v, TokM P ops S d o v a m ∧ wpTokML P md ops S d n L f (listed.setIfInBounds i true) (nextA a o v) (nextM m v)
theorem wpAny_of_tokLM {n g : Nat} {L : Array Bool → Act → Bool → Prop} {Q' : Exit → Act → World → Prop} (hL : ∀ listed a m x w, L listed a m → S m x w → wpAny P md ops Q' g listed (fam d a m x) w) :
    ∀ (f : Nat) (listed : Array Bool) (a : Act) (m : Bool) (x : Value) (w : World), wpTokML P md ops S d n L f listed a m → S m x w → wpAny P md ops Q' (f + g) listed (fam d a m x) w
  | 0, listed, a, m, x, w, h, hS => by rw [Nat.zero_add]; exact hL _ _ _ _ _ h hS
  | f + 1, listed, a, m, x, w, h, hS => by
    rw [show f + 1 + g = (f + g) + 1 by omega]
    refine ⟨fun h0 => absurd h0 h.1, fun i hi => ?_⟩
    obtain ⟨_, o, ho, _⟩ := mem_ready.1 hi
    obtain ⟨v, h1, h2⟩ := (h.2 i hi).2 o ho
    exact h1.op ho hS fun y w' hS' => wpAny_of_tokLM hL f _ _ _ y w' h2 hS'
theorem wpTokML_first {n i : Nat} {oi : Oper} {v : Option Value} {L : Array Bool → Act → Bool → Prop} (hi : ops[i]? = some oi) (hsel : ∀ (j : Nat) (o : Oper) cs b, ops[j]? = some o → o.op ≠ .select cs b)
    (hs : Region.sinkB md ops n = true) (hc : Region.chainB md ops n = true) (hn : n < ops.size) (hin : i < n)
    (hdone : ∀ listed a m, L listed a m → ∀ j ∈ Region.ready md ops listed, n ≤ j) :
    ∀ (f : Nat) (listed : Array Bool) (a : Act) (m : Bool), HeadInv md ops n listed →
      (∀ j oj, ops[j]? = some oj → j ≠ i → listed.getD j true = false → (∀ e ∈ oj.after, Region.binds md e = true → e.on ≠ i) → oi.apart ops oj = true) →
      i ∈ Region.ready md ops listed → TokM P ops S d oi v a m →
      wpTokML P md ops S d n L f (listed.setIfInBounds i true) (nextA a oi v) (nextM m v) → wpTokML P md ops S d n L (f + 1) listed a m := by
  intro f
  induction f with
  | zero =>
    intro listed a m inv _ hr hy H
    have hun := (mem_ready.1 hr).1
    refine ⟨fun h => (by rw [h] at hr; cases hr), fun j hj => ?_⟩
    have hjn : j < n := by
      rcases Nat.lt_or_ge j n with h | h
      · exact h
      · exact absurd hj (tail_waits hs hc hn inv _ i rfl hin hun j h)
    refine ⟨hjn, fun p hp => ?_⟩
    by_cases hji : j = i
    · subst hji
      obtain rfl := Option.some.inj (hi.symm.trans hp)
      exact ⟨v, hy, H⟩
    · have := hdone _ _ _ H j (ready_mono hj hji)
      omega
  | succ f ih =>
    intro listed a m inv hfree hr hy H
    have hun := (mem_ready.1 hr).1
    refine ⟨fun h => (by rw [h] at hr; cases hr), fun j hj => ?_⟩
    have hjn : j < n := by
      rcases Nat.lt_or_ge j n with h | h
      · exact h
      · exact absurd hj (tail_waits hs hc hn inv _ i rfl hin hun j h)
    refine ⟨hjn, fun p hp => ?_⟩
    by_cases hji : j = i
    · subst hji
      obtain rfl := Option.some.inj (hi.symm.trans hp)
      exact ⟨v, hy, H⟩
    · obtain ⟨hjun, oj, hoj, hall⟩ := mem_ready.1 hj
      obtain rfl := Option.some.inj (hoj.symm.trans hp)
      have hnot : ∀ e ∈ oj.after, Region.binds md e = true → e.on ≠ i := fun e he hb heq => by
        have h1 := hall e he hb
        rw [heq, getD_both hun] at h1
        cases h1
      obtain ⟨d1, d2, d3⟩ := Oper.apart_spec (hfree j oj hoj hji hjun hnot)
      obtain ⟨u, hu, Hu⟩ := (H.2 j (ready_mono hj hji)).2 oj hoj
      have hu' := TokM.back (fun cs b => hsel j oj cs b hoj) hy d1 hu
      have hfree' : ∀ k ok, ops[k]? = some ok → k ≠ i → (listed.setIfInBounds j true).getD k true = false →
          (∀ e ∈ ok.after, Region.binds md e = true → e.on ≠ i) → oi.apart ops ok = true := fun k ok hk hki hun hno => by
        refine hfree k ok hk hki ?_ hno
        by_cases hjk : j = k
        · subst hjk; exact hjun
        · rw [getD_set_ne true hjk] at hun; exact hun
      refine ⟨u, hu', ih _ _ _ (inv.set hj hjn) hfree' (ready_mono hr (Ne.symm hji)) (TokM.forth (fun cs b => hsel i oi cs b hi) hu' d3 (fun e he h2 => d2 e h2 he) hy) ?_⟩
      obtain ⟨e1, e2⟩ := next_commM (a := a) (m := m) (v := v) (u := u) d2
      rw [Array.setIfInBounds_comm _ _ hji, ← e1, ← e2]
      exact Hu
theorem wpTokML_lex {n g : Nat} {Lq : Act → Bool → Prop} (hsel : Region.noSelect ops = true) (hs : Region.sinkB md ops n = true) (hc : Region.chainB md ops n = true) (hn : n < ops.size) :
    ∀ (l : List Oper) (k : Nat) (listed : Array Bool) (a : Act) (m : Bool), (∀ j, j < l.length → l[j]? = ops[k + j]?) → k + l.length = n → HeadInv md ops n listed →
    Region.lexHead md ops g l.length k listed = true → wpTokM P ops S d Lq l a m →
    wpTokML P md ops S d n (fun listed' a' m' => Region.seqB md ops g n listed' = true ∧ Lq a' m') l.length listed a m
  | [], k, listed, a, m, _, hk, _, hB, h => by
    have : k = n := by simpa using hk
    subst this
    exact ⟨by simpa [Region.lexHead] using hB, h⟩
  | o :: l, k, listed, a, m, hl, hk, inv, hB, ⟨v, hv, h⟩ => by
    have h0 : ops[k]? = some o := by simpa using (hl 0 (by simp)).symm
    simp only [List.length_cons, Region.lexHead, Bool.and_eq_true] at hB
    obtain ⟨⟨hr, hf⟩, hB'⟩ := hB
    have hkn : k < n := by simp only [List.length_cons] at hk; omega
    have hr' : k ∈ Region.ready md ops listed := by simpa using hr
    exact wpTokML_first h0 (Region.noSelect_spec hsel) hs hc hn hkn (fun listed a m hL => seqB_ready hL.1) _ _ _ _ inv (Region.free_spec h0 hf) hr' hv
      (wpTokML_lex hsel hs hc hn l (k + 1) _ _ _ (fun j hj => by have := hl (j + 1) (by simp; omega); simpa [Nat.add_assoc, Nat.add_comm 1 j] using this) (by simp only [List.length_cons] at hk; omega) (inv.set hr' hkn) hB' h)
/-- THE LAW, with a tail. -/
theorem region_token_tailM {id : Nat} {Q : Exit → Act → World → Prop} {a : Act} {w : World} {l : List Oper} (S : Bool → Value → World → Prop) (d : Tmp) (x : Value) (n : Nat) (hm : P.follows .mixedOrders = true) (hB : Region.lexTailB .any l.toArray n = true) (hS : S false x w.drew)
    (h : wpTokM P l.toArray S d (fun a' m => ∀ y w', S m y w' → wpList P l.toArray Q (l.drop n) (fam d a' m y) w') (l.take n) a false) : (Code.region id l.toArray true).wp P Q a w := by
  simp only [Region.lexTailB, Bool.and_eq_true, decide_eq_true_eq] at hB
  obtain ⟨⟨⟨⟨hsel, hn⟩, hs⟩, hc⟩, hlex⟩ := hB
  have hn' : n < l.length := by simpa using hn
  have htl : (l.take n).length = n := by simp; omega
  have hdl : (l.drop n).length = l.toArray.size - n := by simp
  have inv0 : HeadInv .any l.toArray n (Array.replicate l.toArray.size false) :=
    ⟨by simp, fun j oj _ hl => (by rw [getD_replicate_false] at hl; cases hl), fun t _ ht => getD_in (by simpa using ht) (getD_replicate_false _ _)⟩
  have H := wpTokML_lex (md := .any) (g := l.toArray.size - n) hsel hs hc hn (l.take n) 0 _ a false (fun j hj => by
    have hj' : j < n := by rw [htl] at hj; exact hj
    simp [hj']) (by simpa using htl) inv0 (by rw [htl]; exact hlex) h
  refine wp_region_any hm ?_
  have := wpAny_of_tokLM (Q' := Q) (g := l.toArray.size - n) (fun listed a' m' x' w' hL hS' => by
    have := wpAny_of_seq (md := .any) (Q' := Q) (l.drop n) n listed (fam d a' m' x') w' (fun j => by simp [List.getElem?_drop]) (by rw [hdl]; exact hL.1) (hL.2 x' w' hS')
    rwa [hdl] at this) _ _ _ _ x _ H hS
  rw [htl, show n + (l.toArray.size - n) = l.toArray.size by omega] at this
  exact this
variable {Q : Act → Bool → Prop} {a : Act} {m : Bool} {o : Oper} {rest : List Oper}
theorem tkm_nil (h : Q a m) : wpTokM P ops S d Q [] a m := h
theorem tkm_off (hd : o.dst ≠ some d) (hw : ∀ x, Region.wanted o (yielded ops (fam d a m x).tmps) = false) (hn : wpTokM P ops S d Q rest (a.put o.dst undef) m) : wpTokM P ops S d Q (o :: rest) a m :=
  ⟨some undef, ⟨hd, .inr ⟨hw, rfl⟩⟩, hn⟩
theorem tkm_run {v : Value} (hd : o.dst ≠ some d) (hw : ∀ x, Region.wanted o (yielded ops (fam d a m x).tmps) = true) (h : ∀ b x w, S b x w → (execOp (fam d a m x).eval o).run P w = .ok (.value v) w) (hn : wpTokM P ops S d Q rest (a.put o.dst v) m) : wpTokM P ops S d Q (o :: rest) a m :=
  ⟨some v, ⟨hd, .inl ⟨hw, fun b x w _ hS => by rw [h b x w hS]; exact ⟨rfl, hS⟩⟩⟩, hn⟩
theorem tkm_pure {v : Value} (hd : o.dst ≠ some d) (hw : ∀ x, Region.wanted o (yielded ops (fam d a m x).tmps) = true) (h : ∀ x w, (execOp (fam d a m x).eval o).run P w = .ok (.value v) w) (hn : wpTokM P ops S d Q rest (a.put o.dst v) m) : wpTokM P ops S d Q (o :: rest) a m :=
  tkm_run hd hw (fun _ x w _ => h x w) hn
theorem tkm_load {v : Value} (ty : TypeId) (y : Operand) (ho : o.op = .load ty y) (hd : o.dst ≠ some d) (hw : ∀ x, Region.wanted o (yielded ops (fam d a m x).tmps) = true) (h : ∀ b x w, S b x w → (Instr.loadAt ty ((fam d a m x).eval y)).run P w = .ok v w) (hn : wpTokM P ops S d Q rest (a.put o.dst v) m) : wpTokM P ops S d Q (o :: rest) a m :=
  tkm_run hd hw (fun b x w hS => by simp [execOp, ho, h b x w hS, Result.andThen]) hn
theorem tkm_call {v : Value} {f : FuncId} {args : Array Value} (hc : ∀ b x w, S b x w → Calls P f args w fun e w' => e = .returned v ∧ S b x w') (hd : o.dst ≠ some d) (hw : ∀ x, Region.wanted o (yielded ops (fam d a m x).tmps) = true) (h : ∀ x w, (execOp (fam d a m x).eval o).run P w = .ok (.enter f args) w) (hn : wpTokM P ops S d Q rest (a.put o.dst v) m) : wpTokM P ops S d Q (o :: rest) a m :=
  ⟨some v, ⟨hd, .inl ⟨hw, fun b x w _ hS => by rw [h x w]; exact ⟨v, rfl, hc b x w hS⟩⟩⟩, hn⟩
theorem tkm_make (hd : o.dst = some d) (hw : Region.wanted o (yielded ops a.tmps) = true) (h : ∀ x w, S false x w → ∃ u w', (execOp a.eval o).run P w = .ok (.value u) w' ∧ S true u w') (hn : wpTokM P ops S d Q rest a true) : wpTokM P ops S d Q (o :: rest) a false :=
  ⟨none, ⟨⟨hd, rfl⟩, .inl ⟨fun _ => hw, fun b x w hb hS => by obtain rfl := hb rfl; obtain ⟨u, w', e, hS'⟩ := h x w hS; show tokEndM P S false x none ((execOp a.eval o).run P w); rw [e]; exact hS'⟩⟩, hn⟩
theorem tkm_build {cells : Array Value} (ty : TypeId) (parts : Array (Nat × Operand)) (ho : o.op = .build ty parts) (vs : Array (Nat × Value)) (hv : ∀ x, (parts.map fun (i, y) => (i, (fam d a m x).eval y)) = vs) (hb : P.built ty vs.toList = some cells)
    (hd : o.dst ≠ some d) (hw : ∀ x, Region.wanted o (yielded ops (fam d a m x).tmps) = true) (hn : wpTokM P ops S d Q rest (a.put o.dst (.agg cells)) m) : wpTokM P ops S d Q (o :: rest) a m :=
  tkm_pure hd hw (fun x w => by
    have h := run_build (P := P) w ty vs cells hb
    have e := hv x
    simp only [execOp, ho]
    rw [e]
    simp [h, Result.andThen]) hn
theorem tkm_add {A B : List UInt8} (t1 t2 : TypeId) (p q : Operand) (ho : o.op = .binOp .add t1 p q t2) (hp : ∀ x, (fam d a m x).eval p = Sv A) (hq : ∀ x, (fam d a m x).eval q = Sv B) (hl : A.length + B.length ≤ 9223372036854775807)
    (hd : o.dst ≠ some d) (hw : ∀ x, Region.wanted o (yielded ops (fam d a m x).tmps) = true) (hn : wpTokM P ops S d Q rest (a.put o.dst (Sv (A ++ B))) m) : wpTokM P ops S d Q (o :: rest) a m :=
  tkm_pure hd hw (fun x w => by
    have h := run_add_Sv (P := P) w t1 A B
    rw [if_neg (by omega)] at h
    simp [execOp, ho, hp x, hq x, eqGuard_at_Sv, h, Result.andThen]) hn
end
end Go.Proofs.YtgfdmdikiickpaaGreatDoor

/-! IdentRefB -/
namespace Go.Proofs.YtgfdmdikiickpaaGreatDoor
open Go.RowKit

set_option maxRecDepth 100000 in
set_option maxHeartbeats 1000000 in
theorem rtracebytes_any (l : List UInt8) (w : World) (hl : l.length = 16) :
    Calls Tryz.prog 75 #[Av l] w fun e w' => e = .returned (Sv l) ∧ Below w.heap.size w w' := by
  obtain ⟨w0, hw0⟩ : ∃ w0, w0 = w.alloc (.cells (b8s l).toArray 27) := ⟨_, rfl⟩
  have HW0 := hid hw0
  have hB : Blk w0 w.heap.size 27 (b8s l).toArray := by rw [hw0]; exact Blk.new w _ _
  have hbw : Below w.heap.size w w0 := by rw [hw0]; exact ext_alloc w _
  have hrel0 : ∃ k : Nat, k ≤ 16 ∧ Value.int .i64 0 = .int .i64 (k : Int) ∧ Hid (Own w0 w0.heap.size (.slice none 0 0) (l.take k) ∧ Below w0.heap.size w0 w0) := ⟨0, by omega, rfl, Own.nil _ _, Below.refl _ _⟩
  have HB := hid hB
  have HBW := hid hbw
  have HL := hid hl
  clear hw0 hB hbw hl
  go_enter Tryz.func75, Tryz.ntmps75
  go_wp2_with fail
  rw [← HW0.out]
  try simp only [string_Sv]
  go_loopw [3, 4] (fun v i wr => ∃ k : Nat, k ≤ 16 ∧ i = .int .i64 (k : Int) ∧ Hid (Own wr w0.heap.size v (l.take k) ∧ Below w0.heap.size w0 wr)) (fun _ i _ => 16 - (intOf i).toNat)
  case atStart => exact hrel0
  case round =>
    clear hrel0 HW0
    obtain ⟨k, hk, rfl, HR⟩ := hrel
    by_cases hlt : k < 16
    · have n1 := byteAt_lo l k
      have n2 := byteAt_hi l k
      have hkl : k < l.length := by rw [HL.out]; exact hlt
      have hcell := blk_byte (HB.out.below HR.out.2 HB.out.lt) (j := k) hkl
      have hts := hid (show l.take (k + 1) = l.take k ++ [bt (byteAt l k)] by rw [List.take_succ_eq_append_getElem hkl, byteAt_getElem l k hkl, bt_bi])
      have hlen : (l.take k).length ≤ 100 := by rw [List.length_take]; omega
      clear hkl
      go_wp2_with (at_builtin; refine wpList_app1 rfl (.tmp 9) (.tmp 13) rfl w0 _ (l.take k) rfl (byteAt l k) HR.out.1 HR.out.2 rfl n1 n2 (by omega) ?_; intro v1 w1 hown1 hbw1; have HN : Hid (Own w1 w0.heap.size v1 (l.take (k + 1)) ∧ Below w0.heap.size w0 w1) := ⟨by rw [hts.out]; exact hown1, hbw1⟩; clear hown1 hbw1)
      go_roundw
      case rel => exact ⟨k + 1, by omega, by go_num, HN⟩
      case measure => simp [intOf] <;> omega
    · have hkl : k = 16 := by omega
      subst hkl
      have hts := run_to_string (HR.out.1).bs
      rw [List.take_of_length_le (by rw [HL.out]; omega)] at hts
      have HBE := hid (HBW.out.trans (HR.out.2.mono HBW.out.size))
      clear HR
      go_wp2
      go_ret
      exact ⟨rfl, HBE.out⟩
set_option maxRecDepth 100000 in
set_option maxHeartbeats 1000000 in
theorem rspanbytes_any (l : List UInt8) (w : World) (hl : l.length = 8) :
    Calls Tryz.prog 76 #[Av l] w fun e w' => e = .returned (Sv l) ∧ Below w.heap.size w w' := by
  obtain ⟨w0, hw0⟩ : ∃ w0, w0 = w.alloc (.cells (b8s l).toArray 29) := ⟨_, rfl⟩
  have HW0 := hid hw0
  have hB : Blk w0 w.heap.size 29 (b8s l).toArray := by rw [hw0]; exact Blk.new w _ _
  have hbw : Below w.heap.size w w0 := by rw [hw0]; exact ext_alloc w _
  have hrel0 : ∃ k : Nat, k ≤ 8 ∧ Value.int .i64 0 = .int .i64 (k : Int) ∧ Hid (Own w0 w0.heap.size (.slice none 0 0) (l.take k) ∧ Below w0.heap.size w0 w0) := ⟨0, by omega, rfl, Own.nil _ _, Below.refl _ _⟩
  have HB := hid hB
  have HBW := hid hbw
  have HL := hid hl
  clear hw0 hB hbw hl
  go_enter Tryz.func76, Tryz.ntmps76
  go_wp2_with fail
  rw [← HW0.out]
  try simp only [string_Sv]
  go_loopw [3, 4] (fun v i wr => ∃ k : Nat, k ≤ 8 ∧ i = .int .i64 (k : Int) ∧ Hid (Own wr w0.heap.size v (l.take k) ∧ Below w0.heap.size w0 wr)) (fun _ i _ => 8 - (intOf i).toNat)
  case atStart => exact hrel0
  case round =>
    clear hrel0 HW0
    obtain ⟨k, hk, rfl, HR⟩ := hrel
    by_cases hlt : k < 8
    · have n1 := byteAt_lo l k
      have n2 := byteAt_hi l k
      have hkl : k < l.length := by rw [HL.out]; exact hlt
      have hcell := blk_byte (HB.out.below HR.out.2 HB.out.lt) (j := k) hkl
      have hts := hid (show l.take (k + 1) = l.take k ++ [bt (byteAt l k)] by rw [List.take_succ_eq_append_getElem hkl, byteAt_getElem l k hkl, bt_bi])
      have hlen : (l.take k).length ≤ 100 := by rw [List.length_take]; omega
      clear hkl
      go_wp2_with (at_builtin; refine wpList_app1 rfl (.tmp 9) (.tmp 13) rfl w0 _ (l.take k) rfl (byteAt l k) HR.out.1 HR.out.2 rfl n1 n2 (by omega) ?_; intro v1 w1 hown1 hbw1; have HN : Hid (Own w1 w0.heap.size v1 (l.take (k + 1)) ∧ Below w0.heap.size w0 w1) := ⟨by rw [hts.out]; exact hown1, hbw1⟩; clear hown1 hbw1)
      go_roundw
      case rel => exact ⟨k + 1, by omega, by go_num, HN⟩
      case measure => simp [intOf] <;> omega
    · have hkl : k = 8 := by omega
      subst hkl
      have hts := run_to_string (HR.out.1).bs
      rw [List.take_of_length_le (by rw [HL.out]; omega)] at hts
      have HBE := hid (HBW.out.trans (HR.out.2.mono HBW.out.size))
      clear HR
      go_wp2
      go_ret
      exact ⟨rfl, HBE.out⟩
set_option maxRecDepth 100000 in
set_option maxHeartbeats 400000 in
theorem rnumber_any (s : List UInt8) (w : World) (hs : s.length ≤ 8) :
    Calls Tryz.prog 80 #[Sv s] w fun e w' => e = .returned (.int .u64 (valH s)) ∧ w = w' := by
  go_enter Tryz.func80, Tryz.ntmps80
  go_wp2
  go_loop [3, 4] (fun u i => ∃ k : Nat, k ≤ s.length ∧ i = .int .i64 (k : Int) ∧ u = .int .u64 (valH (s.take k))) (fun _ i => s.length - (intOf i).toNat)
  case atStart => exact ⟨0, by omega, rfl, by simp [valH, valL]⟩
  case round =>
    obtain ⟨k, hk, rfl, rfl⟩ := hrel
    by_cases hlt : k < s.length
    · have hv := hid (valH_take s k hlt)
      have v0 : 0 ≤ valH (s.take k) := valL_nonneg _
      have v1 : valH (s.take k) ≤ 72057594037927935 := by have := valL_lt_le (s.take k).reverse 7 (by simp; omega); unfold valH; omega
      generalize valH (s.take k) = V at hv v0 v1 ⊢
      have n1 := byteAt_lo s k
      have n2 := byteAt_hi s k
      go_wp2
      go_round
      case rel => exact ⟨k + 1, by omega, by go_num, by rw [hv.out]⟩
      case measure => simp [intOf] <;> omega
    · have hk0 : k = s.length := by omega
      subst hk0
      rw [List.take_length]
      go_wp2
      go_ret
      exact ⟨rfl, rfl⟩
theorem rnumber_quiet (s : List UInt8) (w : World) (n : Nat) (hs : s.length ≤ 8) :
    Calls Tryz.prog 80 #[Sv s] (w.drewN n) fun e w' => e = .returned (.int .u64 (valH s)) ∧ ∃ m, w' = w.drewN m :=
  Calls.quiet_of_same ((rnumber_any s _ hs).mono fun _ _ ⟨he, hm⟩ => ⟨he, hm.symm⟩)
set_option maxRecDepth 100000 in
set_option maxHeartbeats 1000000 in
theorem rhalves_any (l : List UInt8) (w : World) (hl : l.length = 16) :
    Calls Tryz.prog 48 #[Av l] w fun e w' => e = .returned (.tuple #[.int .u64 (valH (l.take 8)), .int .u64 (valH (l.drop 8))]) ∧ Below w.heap.size w w' := by
  have HB := hid (Blk.new w 27 (b8s l).toArray)
  have HBW := hid (ext_alloc w (.cells (b8s l).toArray 27))
  have HL := hid hl
  have q1 : 8 ≤ l.length := by omega
  have q2 : (8 : Int) ≤ (l.length : Int) := by omega
  have t1 : (l.take 8).length ≤ 8 := by rw [List.length_take]; omega
  have t2 : (l.drop 8).length ≤ 8 := by rw [List.length_drop]; omega
  clear hl
  go_enter Tryz.func48, Tryz.ntmps48
  go_wp2_with (refine wpList_load_av rfl 27 (.tmp 1) rfl w.heap.size 16 l _ rfl HB.out Tryz.underlying27 info_trace HL.out ?_)
  refine (rtracebytes_any l _ HL.out).mono ?_; rintro e w1 ⟨rfl, hb1⟩
  go_wp2_with fail
  go_quiet ((go_at_call 80; exact rnumber_quiet _ _ _ (by assumption)))
  go_wp2
  go_ret2
  exact ⟨rfl, below_drewN (HBW.out.trans (hb1.mono HBW.out.size)) _⟩
set_option maxRecDepth 100000 in
theorem rnum_any (l : List UInt8) (w : World) (hl : l.length = 8) :
    Calls Tryz.prog 47 #[Av l] w fun e w' => e = .returned (.int .u64 (valH l)) ∧ Below w.heap.size w w' := by
  have HB := hid (Blk.new w 29 (b8s l).toArray)
  have HBW := hid (ext_alloc w (.cells (b8s l).toArray 29))
  have HL := hid hl
  have t1 : l.length ≤ 8 := by omega
  clear hl
  go_enter Tryz.func47, Tryz.ntmps47
  go_wp2_with (refine wpList_load_av rfl 29 (.tmp 1) rfl w.heap.size 8 l _ rfl HB.out Tryz.underlying29 info_span HL.out ?_)
  refine (rspanbytes_any l _ HL.out).mono ?_; rintro e w1 ⟨rfl, hb1⟩
  go_wp2_with fail
  refine (rnumber_any l _ t1).mono ?_; rintro e w2 ⟨rfl, rfl⟩
  go_wp2
  go_ret
  exact ⟨rfl, HBW.out.trans (hb1.mono HBW.out.size)⟩
end Go.Proofs.YtgfdmdikiickpaaGreatDoor

/-! Held -/
namespace Go.Proofs.YtgfdmdikiickpaaGreatDoor
open Go.RowKit

theorem run_load_of {P : Program} {o : Oper} {a : Act} {w : World} {ty : TypeId} {x : Operand} {v : Value} (ho : o.op = .load ty x) (h : (Instr.loadAt ty (a.eval x)).run P w = .ok v w) : (execOp a.eval o).run P w = .ok (.value v) w := by
  simp [execOp, ho, h, Result.andThen]
theorem held_step {P : Program} {md : Region.Mode} {ops : Array Oper} {Q : Exit → Act → World → Prop} {S : World → Prop} {i : Nat} (d : Option Tmp) {v : Value} {fuel : Nat} {listed : Array Bool} {a : Act} {w : World} (hi : (ops[i]?).map (·.dst) = some d)
    (hs : Region.noSelect ops = true) (hf : Region.free md ops listed i = true) (hr : (Region.ready md ops listed).contains i = true)
    (hQ : ∀ c a w, Q (.panic c) (a.put d v) w → Q (.panic c) a w) (hy : ∀ o, ops[i]? = some o → YieldsIf P ops S o v a) (hS : S w)
    (h : wpAnyH P md ops Q S fuel (listed.setIfInBounds i true) (a.put d v) w) : wpAnyH P md ops Q S (fuel + 1) listed a w := by
  obtain ⟨o, ho, hd⟩ := Option.map_eq_some_iff.1 hi
  subst hd
  exact wpAnyH_take ho hs hf hr hQ (hy o ho) hS h
end Go.Proofs.YtgfdmdikiickpaaGreatDoor
