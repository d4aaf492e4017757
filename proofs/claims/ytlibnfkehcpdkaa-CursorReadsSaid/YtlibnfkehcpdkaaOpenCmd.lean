/-
  The commands of CursorReads, as they come in.
-/
import Derived.Test.YtlibnfkehcpdkaaOpenFields
import Derived.Test.YtlibnfkehcpdkaaCurReadsB
namespace Go.Proofs.Ytlibnfkehcpdkaa
open Go.ChangeShapes Go.WideShapes Go.Deep Go.RowKit

theorem open_Op {H : Type} {enc : TypeId × Value → H} {W : World} {base : Nat} {v : Value} {d : DataW H} {p : List MemPlace}
    (hv : Value.okWide Try.prog W .any base 40 v) (h : DataW.Trod enc Try.prog W 0 (fun _ => true) true 40 v d p) :
    ∃ l : List Cmd, (∃ A cap, v = .slice A l.length cap ∧ l.length ≤ cap ∧ Cmds W W.heap.size A l) ∧ True := by
  obtain ⟨a, len, cap, rfl⟩ := okWide_slice Try.underlying40 hv
  obtain ⟨fuel, hf⟩ := h
  rcases open_slice_fields Try.underlying40 Try.underlying46 (by kernel_rfl) (by kernel_rfl) hf with ⟨hcs, _⟩ | ⟨x, len', cap', m, D, Pl, hcs, _, hl, hm, hmm, _, hi⟩
  · simp [Value.cells] at hcs
    obtain ⟨rfl, rfl, rfl⟩ := hcs
    exact ⟨[], ⟨none, 0, rfl, Nat.le_refl _, fun k hk => absurd hk (by simp)⟩, trivial⟩
  · simp [Value.cells] at hcs
    obtain ⟨rfl, rfl, rfl⟩ := hcs
    simp only [if_true] at hmm
    have hall : ∀ i, i < len → ∃ o : Cmd, o.fit ∧ ∀ j (hj : j < 3), W.cell? (x.add (i * 3 + j)) = some (o.cells[j]'(by simp [Cmd.cells]; omega)) := by
      intro i hil
      obtain ⟨ys, n, _, _, _, hfs⟩ := hi i (by omega)
      obtain ⟨v0, y0, c0, _, t0⟩ := hfs 0 _ rfl
      obtain ⟨v1, y1, c1, _, t1⟩ := hfs 1 _ rfl
      obtain ⟨v2, y2, c2, _, t2⟩ := hfs 2 _ rfl
      obtain ⟨k, e0, _, wk⟩ := DataW.trod_int Try.underlying5 t0
      obtain ⟨n', e1, _, wn⟩ := DataW.trod_int Try.underlying3 t1
      obtain ⟨d', e2, _, wd⟩ := DataW.trod_int Try.underlying3 t2
      simp at e0 e1 e2
      subst e0 e1 e2
      have b0 := int_bd wk
      have b1 := int_bd wn
      have b2 := int_bd wd
      refine ⟨⟨k, n', d'⟩, ⟨b0.1, b0.2, b1.1, b1.2, b2.1, b2.2⟩, fun j hj => ?_⟩
      match j, hj with
      | 0, _ => exact c0
      | 1, _ => exact c1
      | 2, _ => exact c2
    obtain ⟨f, hff⟩ : ∃ f : Nat → Cmd, ∀ i, i < len → (f i).fit ∧ ∀ j (hj : j < 3), W.cell? (x.add (i * 3 + j)) = some ((f i).cells[j]'(by simp [Cmd.cells]; omega)) :=
      ⟨fun i => if hi : i < len then Classical.choose (hall i hi) else ⟨0, 0, 0⟩, fun i hi => by simp only [dif_pos hi]; exact Classical.choose_spec (hall i hi)⟩
    refine ⟨(List.range len).map f, ⟨some x, cap, by simp, by simpa using hl, fun k hk => ?_⟩, trivial⟩
    have hk' : k < len := by simpa using hk
    have he : ((List.range len).map f)[k] = f k := by simp
    rw [he]
    refine ⟨x, rfl, ?_, (hff k hk').1, (hff k hk').2⟩
    have := World.block_lt_of_cell? W _ ((hff k hk').2 0 (by omega))
    rwa [block_of_add] at this
end Go.Proofs.Ytlibnfkehcpdkaa
