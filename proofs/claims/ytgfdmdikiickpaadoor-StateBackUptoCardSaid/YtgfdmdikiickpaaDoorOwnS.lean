/-
  Slices of strings of the call's own; append; the document's cut of a text.
-/
import Derived.Test.YtgfdmdikiickpaaDoorMem
import Derived.Test.YtgfdmdikiickpaaDoorBytes
import Derived.Laws.AppendOwn
import Derived.Deep.DeepFit
namespace Go.Proofs.YtgfdmdikiickpaaDoor
open Go.RowKit

def OwnS (w : World) (B : Nat) (v : Value) (L : List (List UInt8)) : Prop := w.ownsRow B 9 1 v L.length (L.map Sv)
theorem OwnS.nil (w : World) (B : Nat) : OwnS w B (.slice none 0 0) [] := ⟨rfl, .inl ⟨rfl, rfl⟩⟩
theorem OwnS.below {w w' : World} {B C : Nat} {v : Value} {L : List (List UInt8)} (h : OwnS w B v L) (hb : Below C w w') (hC : w.heap.size ≤ C) : OwnS w' B v L := by
  refine ⟨h.1, ?_⟩
  rcases h.2 with hn | ⟨g, cap, cur, hv, hg, hh, rest⟩
  · exact .inl hn
  · refine .inr ⟨g, cap, cur, hv, hg, ?_, rest⟩
    have hlt : g < w.heap.size := by
      rcases Nat.lt_or_ge g w.heap.size with q | q
      · exact q
      · rw [Array.getElem?_eq_none q] at hh; cases hh
    rw [hb.block g (by omega)]
    exact hh
theorem OwnS.ext {w w' : World} {B : Nat} {v : Value} {L : List (List UInt8)} (h : OwnS w B v L) (hb : Below w.heap.size w w') : OwnS w' B v L := h.below hb (Nat.le_refl _)
theorem OwnS.form {w : World} {B : Nat} {v : Value} {L : List (List UInt8)} (h : OwnS w B v L) : (L = [] ∧ v = .slice none 0 0) ∨ ∃ g cap, v = .slice (some ⟨g, 0, none⟩) L.length cap ∧ B ≤ g ∧ L.length ≤ cap ∧ cap ≤ maxLen := by
  rcases h.2 with ⟨hn, h0⟩ | ⟨g, cap, cur, hv, hg, _, h1, h2, _⟩
  · exact .inl ⟨List.eq_nil_of_length_eq_zero h0, hn⟩
  · exact .inr ⟨g, cap, hv, hg, h1, h2⟩
theorem OwnS.at_ {w : World} {B g cap n : Nat} {L : List (List UInt8)} (h : OwnS w B (.slice (some ⟨g, 0, none⟩) n cap) L) (hn : n = L.length) {k : Nat} {s : List UInt8} (hk : L[k]? = some s) : w.cell? ⟨g, k, none⟩ = some (Sv s) := by
  subst hn
  have hlt : k < L.length := by
    rcases Nat.lt_or_ge k L.length with q | q
    · exact q
    · rw [List.getElem?_eq_none q] at hk; cases hk
  rw [World.ownsRow.cellAt h k (by omega)]
  simp [hk]
theorem OwnS.one (w : World) (B : Nat) (hB : B ≤ w.heap.size) (s : List UInt8) : OwnS (w.alloc (.cells #[Sv s] 9)) B (.slice (some ⟨w.heap.size, 0, none⟩) 1 1) [s] :=
  ⟨rfl, .inr ⟨w.heap.size, 1, #[Sv s], rfl, hB, Blk.new w _ _, Nat.le_refl _, by decide, rfl, rfl⟩⟩
theorem info_strs : (Tryd.prog.info? 9).map (fun i => (i.zero, i.size, i.bytes)) = some (some (.string ByteArray.empty), 1, 16) := by kernel_rfl
theorem sv_one (L : List (List UInt8)) : ∀ u ∈ L.map Sv, u.oneCell' = true := by
  intro u hu
  obtain ⟨s, _, rfl⟩ := List.mem_map.1 hu
  rfl
theorem wpList_appS {w : World} {ops : Array Oper} {rest : List Oper} {o : Oper} {a : Act} {Q : Exit → Act → World → Prop} (hgd : o.guard = none) {s x : Operand}
    (ho : o.op = .call { callee := .builtin .append, args := #[s, x], argTypes := #[69, 69] })
    (base : Nat) (v : Value) (L : List (List UInt8)) (hs : a.eval s = v) (hown : OwnS w base v L)
    {g c : Nat} (q : List UInt8) (hx : a.eval x = .slice (some ⟨g, 0, none⟩) 1 c) (hg : w.cell? ⟨g, 0, none⟩ = some (Sv q)) (hl : L.length + 1 ≤ 8796093022208) (hbase : base ≤ w.heap.size)
    (h : ∀ v' w', OwnS w' base v' (L ++ [q]) → w.grownBy w' v.ownBlock → wpList Tryd.prog ops Q rest (a.put o.dst v') w') : wpList Tryd.prog ops Q (o :: rest) a w := by
  refine wpList_plain hgd fun K hK => ?_
  obtain ⟨i0, hi, hz0, hz1, hz2⟩ := info_parts info_strs
  refine wp_append_own (w := w) s x _ ho base 9 i0 _ 1 16 Tryd.underlying69 hi hz0 hz1 hz2 rfl (by omega) v L.length (L.map Sv) hs hown ⟨g, 0, none⟩ 1 c [Sv q] hx (by rfl)
    (fun j u hu => by
      cases j with
      | zero => obtain rfl : u = Sv q := (Option.some.inj hu).symm; exact hg
      | succ j => simp at hu) (fun u hu => by obtain rfl := List.mem_singleton.1 hu; rfl) (by unfold maxLen; omega) (by omega) hbase ?_
  intro v' w' h1 h2 _
  refine hK _ _ (h v' w' ?_ h2)
  unfold OwnS
  rw [List.map_append, List.length_append]
  exact h1
end Go.Proofs.YtgfdmdikiickpaaDoor
