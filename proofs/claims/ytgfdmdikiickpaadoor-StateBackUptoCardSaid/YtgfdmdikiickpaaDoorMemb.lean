/-
  Lists of members (two strings each): the call's own, and as they are read.
-/
import Derived.Test.YtgfdmdikiickpaaDoorState
import Derived.Laws.AppendOwn
import Derived.Deep.DeepFit
namespace Go.Proofs.YtgfdmdikiickpaaDoor
open Go.RowKit

def mcs (m : Mb) : Array Value := #[Sv m.1, Sv m.2]
def flatM (L : List Mb) : List Value := (L.map (fun m => (mcs m).toList)).flatten
def OwnM (w : World) (B : Nat) (T : TypeId) (v : Value) (L : List Mb) : Prop := w.ownsRow B T 2 v L.length (flatM L)
theorem flatM_snoc (L : List Mb) (m : Mb) : flatM (L ++ [m]) = flatM L ++ (mcs m).toList := by simp [flatM]
theorem flatM_len : ∀ L : List Mb, (flatM L).length = L.length * 2
  | [] => rfl
  | m :: L => by
    have := flatM_len L
    have e : flatM (m :: L) = (mcs m).toList ++ flatM L := rfl
    rw [e, List.length_append, this, List.length_cons]
    show 2 + L.length * 2 = _
    omega
theorem OwnM.nil (w : World) (B : Nat) (T : TypeId) : OwnM w B T (.slice none 0 0) [] := ⟨rfl, .inl ⟨rfl, rfl⟩⟩
theorem mcs_one (m : Mb) : ∀ u ∈ (mcs m).toList, u.oneCell' = true := by
  intro u hu
  simp only [mcs] at hu
  simp at hu
  rcases hu with rfl | rfl <;> rfl
def zM : Value := .agg #[.string ByteArray.empty, .string ByteArray.empty]
theorem wpList_appM {w : World} {ops : Array Oper} {rest : List Oper} {o : Oper} {a : Act} {Q : Exit → Act → World → Prop} (hgd : o.guard = none) (s x : Operand) (Ts T : TypeId)
    (hT : Tryd.prog.underlying Ts = some (.slice T)) (hI : (Tryd.prog.info? T).map (fun i => (i.zero, i.size, i.bytes)) = some (some zM, 2, 32))
    (ho : o.op = .call { callee := .builtin .append, args := #[s, x], argTypes := #[Ts, Ts] })
    (base : Nat) (v : Value) (L : List Mb) (hs : a.eval s = v) (hown : OwnM w base T v L)
    (g c : Nat) (T' : TypeId) (m : Mb) (hx : a.eval x = .slice (some ⟨g, 0, none⟩) 1 c) (hg : Blk w g T' (mcs m)) (hl : L.length ≤ 1000000) (hbase : base ≤ w.heap.size)
    (h : ∀ v' w', OwnM w' base T v' (L ++ [m]) → w.grownBy w' v.ownBlock → wpList Tryd.prog ops Q rest (a.put o.dst v') w') : wpList Tryd.prog ops Q (o :: rest) a w := by
  refine wpList_plain hgd fun K hK => ?_
  obtain ⟨i0, hi, hz0, hz1, hz2⟩ := info_parts hI
  refine wp_append_own (w := w) s x _ ho base T i0 _ 2 32 hT hi hz0 hz1 hz2 rfl (by omega) v L.length (flatM L) hs hown ⟨g, 0, none⟩ 1 c (mcs m).toList hx (by rfl)
    (fun j u hu => by rw [add_zero_off, hg.cell j, ← hu]; simp) (mcs_one m) (by unfold maxLen; omega) (by omega) hbase ?_
  intro v' w' h1 h2 _
  refine hK _ _ (h v' w' ?_ h2)
  unfold OwnM
  rw [flatM_snoc, List.length_append]
  exact h1
theorem info_sm : (Tryd.prog.info? 92).map (fun i => (i.zero, i.size, i.bytes)) = some (some zM, 2, 32) := by kernel_rfl
theorem info_rm : (Tryd.prog.info? 100).map (fun i => (i.zero, i.size, i.bytes)) = some (some zM, 2, 32) := by kernel_rfl
theorem OwnM.ext {w w' : World} {B : Nat} {T : TypeId} {v : Value} {L : List Mb} (h : OwnM w B T v L) (hb : Below w.heap.size w w') : OwnM w' B T v L :=
  World.ownsRow.kept h (only_of_below hb none) (by cases v.ownBlock <;> simp)
theorem OwnM.form {w : World} {B : Nat} {T : TypeId} {v : Value} {L : List Mb} (h : OwnM w B T v L) : (L = [] ∧ v = .slice none 0 0) ∨ ∃ g cap, v = .slice (some ⟨g, 0, none⟩) L.length cap ∧ B ≤ g ∧ L.length ≤ cap ∧ cap ≤ maxLen := by
  rcases h.2 with ⟨hn, h0⟩ | ⟨g, cap, cur, hv, hg, _, h1, h2, _⟩
  · exact .inl ⟨List.eq_nil_of_length_eq_zero h0, hn⟩
  · exact .inr ⟨g, cap, hv, hg, h1, h2⟩
/-- A list of members as it is read. -/
def ReadsM (w : World) (v : Value) (L : List Mb) : Prop := (L = [] ∧ ∃ a c, v = .slice a 0 c) ∨ ∃ A c, v = .slice (some A) L.length c ∧ ∀ j m, L[j]? = some m → w.cell? (A.add (2 * j)) = some (Sv m.1) ∧ w.cell? (A.add (2 * j + 1)) = some (Sv m.2)
theorem flatM_at : ∀ (L : List Mb) (j : Nat) (m : Mb), L[j]? = some m → (flatM L)[2 * j]? = some (Sv m.1) ∧ (flatM L)[2 * j + 1]? = some (Sv m.2)
  | [], _, _, h => by simp at h
  | x :: L, 0, m, h => by
    obtain rfl : x = m := by simpa using h
    exact ⟨rfl, rfl⟩
  | x :: L, j + 1, m, h => by
    have ih := flatM_at L j m (by simpa using h)
    have e : flatM (x :: L) = Sv x.1 :: Sv x.2 :: flatM L := rfl
    rw [e, show 2 * (j + 1) = 2 * j + 1 + 1 by omega]
    simpa using ih
theorem OwnM.reads {w : World} {B : Nat} {T : TypeId} {v : Value} {L : List Mb} (h : OwnM w B T v L) : ReadsM w v L := by
  rcases h.form with ⟨hL, hv⟩ | ⟨g, cap, hv, _, _, _⟩
  · exact .inl ⟨hL, none, 0, hv⟩
  · subst hv
    refine .inr ⟨⟨g, 0, none⟩, cap, rfl, fun j m hj => ?_⟩
    have hlt : j < L.length := by
      rcases Nat.lt_or_ge j L.length with q | q
      · exact q
      · rw [List.getElem?_eq_none q] at hj; cases hj
    obtain ⟨h1, h2⟩ := flatM_at L j m hj
    rw [add_zero_off, add_zero_off, World.ownsRow.cellAt h (2 * j) (by omega), World.ownsRow.cellAt h (2 * j + 1) (by omega)]
    exact ⟨h1, h2⟩
theorem ReadsM.len {w : World} {v : Value} {L : List Mb} (h : ReadsM w v L) : ∃ a c, v = .slice a L.length c := by
  rcases h with ⟨rfl, a, c, rfl⟩ | ⟨A, c, rfl, _⟩
  · exact ⟨a, c, rfl⟩
  · exact ⟨some A, c, rfl⟩
end Go.Proofs.YtgfdmdikiickpaaDoor
