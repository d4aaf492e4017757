/-
  Lists of members as they are read, whosever they are.
-/
import Derived.Test.YtgfdmdikiickpaaDoorMemb
import Derived.Test.YtgfdmdikiickpaaDoorPStateB
namespace Go.Proofs.YtgfdmdikiickpaaDoor
open Go.RowKit

def Mbs (w : World) (B : Nat) (A : Option Addr) (L : List Mb) : Prop :=
  ∀ (k : Nat) m, L[k]? = some m → ∃ ad : Addr, A = some ad ∧ ad.block < B ∧ ∀ (q : Nat) u, (mcs m)[q]? = some u → w.cell? (ad.add (k * 2 + q)) = some u
theorem Mbs.below {w w' : World} {B : Nat} {A : Option Addr} {L : List Mb} (h : Mbs w B A L) (hb : Below B w w') : Mbs w' B A L := fun k m hm => by
  obtain ⟨ad, e, hlt, hc⟩ := h k m hm
  exact ⟨ad, e, hlt, fun q u hu => (hb.cell (by rw [block_of_add]; exact hlt)).trans (hc q u hu)⟩
theorem Mbs.mono_ {w : World} {B B' : Nat} {A : Option Addr} {L : List Mb} (h : Mbs w B A L) (hB : B ≤ B') : Mbs w B' A L := fun k m hm => by
  obtain ⟨ad, e, hlt, hc⟩ := h k m hm
  exact ⟨ad, e, Nat.lt_of_lt_of_le hlt hB, hc⟩
theorem Mbs.ext {w w' : World} {A : Option Addr} {L : List Mb} (h : Mbs w w.heap.size A L) (hb : Below w.heap.size w w') : Mbs w' w'.heap.size A L := (h.below hb).mono_ hb.size
theorem Mbs.nil (w : World) (B : Nat) (A : Option Addr) : Mbs w B A [] := fun k m hm => by simp at hm
theorem Mbs.at_ {w : World} {B : Nat} {A : Option Addr} {L : List Mb} (h : Mbs w B A L) {k : Nat} {m : Mb} (hm : L[k]? = some m) :
    ∃ ad : Addr, A = some ad ∧ w.cell? (ad.add (k * 2)) = some (Sv m.1) ∧ w.cell? ⟨(ad.add (k * 2)).block, (ad.add (k * 2)).off + 1, none⟩ = some (Sv m.2) := by
  obtain ⟨ad, e, _, hc⟩ := h k m hm
  have q0 := hc 0 _ rfl
  have q1 := hc 1 _ rfl
  rw [← add_of_add] at q1
  exact ⟨ad, e, q0, q1⟩
theorem OwnM.mbs {w : World} {B : Nat} {T : TypeId} {v : Value} {L : List Mb} (h : OwnM w B T v L) : ∃ A c, v = .slice A L.length c ∧ Mbs w w.heap.size A L := by
  rcases h.form with ⟨hL, hv⟩ | ⟨g, cap, hv, _, _, _⟩
  · subst hL hv
    exact ⟨none, 0, rfl, Mbs.nil _ _ _⟩
  · subst hv
    refine ⟨some ⟨g, 0, none⟩, cap, rfl, fun k m hm => ⟨⟨g, 0, none⟩, rfl, (World.ownsRow.lt h g rfl).2, fun q u hu => ?_⟩⟩
    have hlt : k < L.length := by
      rcases Nat.lt_or_ge k L.length with q | q
      · exact q
      · rw [List.getElem?_eq_none q] at hm; cases hm
    obtain ⟨h1, h2⟩ := flatM_at L k m hm
    have hq : q < 2 := by
      rcases Nat.lt_or_ge q 2 with r | r
      · exact r
      · rw [Array.getElem?_eq_none (by simpa [mcs] using r)] at hu; cases hu
    rw [add_zero_off, World.ownsRow.cellAt h (k * 2 + q) (by omega)]
    rw [Nat.mul_comm 2 k] at h1 h2
    match q, hu with
    | 0, hu => rw [show u = Sv m.1 from (Option.some.inj hu).symm]; exact h1
    | 1, hu => rw [show u = Sv m.2 from (Option.some.inj hu).symm]; exact h2
theorem Mbs.take_ {w : World} {B : Nat} {A : Option Addr} {L : List Mb} (h : Mbs w B A L) (n : Nat) : Mbs w B A (L.take n) := fun k m hm => by
  refine h k m ?_
  rw [List.getElem?_take] at hm
  split at hm
  · exact hm
  · cases hm
theorem OwnM.mbs_ {w : World} {B n c : Nat} {A : Option Addr} {T : TypeId} {L : List Mb} (h : OwnM w B T (.slice A n c) L) : Mbs w w.heap.size A L := by
  obtain ⟨A', c', e, hm⟩ := h.mbs
  injection e with e1 _ _
  rw [e1]; exact hm
theorem OwnM.one (w : World) (B : Nat) (hB : B ≤ w.heap.size) (T : TypeId) (m : Mb) : OwnM (w.alloc (.cells #[Sv m.1, Sv m.2] T)) B T (.slice (some ⟨w.heap.size, 0, none⟩) 1 1) [m] :=
  ⟨rfl, .inr ⟨w.heap.size, 1, #[Sv m.1, Sv m.2], rfl, hB, Blk.new w _ _, Nat.le_refl _, by decide, rfl, rfl⟩⟩
theorem OwnM.len {w : World} {B : Nat} {T : TypeId} {v : Value} {L : List Mb} (h : OwnM w B T v L) : ∃ A c, v = .slice A L.length c := by
  obtain ⟨A, c, e, _⟩ := h.mbs
  exact ⟨A, c, e⟩
theorem OwnM.mono_ {w : World} {B B' : Nat} {T : TypeId} {v : Value} {L : List Mb} (h : OwnM w B T v L) (hB : B' ≤ B) : OwnM w B' T v L := by
  refine ⟨h.1, ?_⟩
  rcases h.2 with hn | ⟨g, cap, cur, hv, hg, rest⟩
  · exact .inl hn
  · exact .inr ⟨g, cap, cur, hv, by omega, rest⟩
end Go.Proofs.YtgfdmdikiickpaaDoor
