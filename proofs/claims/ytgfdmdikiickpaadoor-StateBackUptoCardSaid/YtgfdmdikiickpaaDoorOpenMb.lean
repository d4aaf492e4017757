/-
  Arguments that are lists of members, opened.
-/
import Derived.Test.YtgfdmdikiickpaaDoorOpenFields
import Derived.Test.YtgfdmdikiickpaaDoorStateI
namespace Go.Proofs.YtgfdmdikiickpaaDoor
open Go.ChangeShapes Go.WideShapes Go.Deep Go.RowKit

def ofMb {H : Type} (m : Mb) : DataW H := .agg [.lit (.string m.1), .lit (.string m.2)]
def OfMb {H : Type} (d : DataW H) (L : List Mb) : Prop := (L = [] ∧ d = .nil) ∨ ∃ spare : List (DataW H), d = .slice (L.map ofMb) spare
set_option maxRecDepth 100000 in
theorem open_Sltruchmanref44Member {H : Type} {enc : TypeId × Value → H} {W : World} {base : Nat} {v : Value} {d : DataW H} {p : List MemPlace}
    (hv : Value.okWide Tryd.prog W .any base 46 v) (h : DataW.Trod enc Tryd.prog W 0 (fun _ => true) true 46 v d p) :
    ∃ L : List Mb, (∃ A cap, v = .slice A L.length cap ∧ L.length ≤ cap ∧ cap ≤ 9223372036854775807 ∧ Mbs W W.heap.size A L) ∧ OfMb d L := by
  obtain ⟨a, len, cap, rfl⟩ := okWide_slice Tryd.underlying46 hv
  obtain ⟨fuel, hf⟩ := h
  rcases open_slice_fields Tryd.underlying46 Tryd.underlying100 (by kernel_rfl) (by kernel_rfl) hf with ⟨hcs, hx⟩ | ⟨x, len', cap', m, D, Pl, hcs, _, hl, hm, hmm, hx, hi⟩
  · simp [Value.cells] at hcs
    obtain ⟨rfl, rfl, rfl⟩ := hcs
    simp only [Prod.mk.injEq] at hx
    exact ⟨[], ⟨none, 0, rfl, Nat.le_refl _, by omega, Mbs.nil W W.heap.size none⟩, .inl ⟨rfl, hx.1⟩⟩
  · simp [Value.cells] at hcs
    obtain ⟨rfl, rfl, rfl⟩ := hcs
    simp only [if_true] at hmm
    simp only [Prod.mk.injEq] at hx
    have hall : ∀ i, i < len → ∃ F : Mb, D i = ofMb F ∧ ∀ q u, (mcs F)[q]? = some u → W.cell? (x.add (i * 2 + q)) = some u := by
      intro i hil
      obtain ⟨ys, n, hD, _, hyl, hfs⟩ := hi i (by omega)
      obtain ⟨v0, y0, c0, e0, t0⟩ := hfs 0 _ rfl
      obtain ⟨v1, y1, c1, e1, t1⟩ := hfs 1 _ rfl
      obtain ⟨s', f0, g0, _⟩ := DataW.trod_string Tryd.underlying9 t0
      obtain ⟨r', f1, g1, _⟩ := DataW.trod_string Tryd.underlying9 t1
      simp at f0 f1
      subst f0 f1 g0 g1
      have hyl2 : ys.length = 2 := hyl
      refine ⟨(s'.data.toList, r'.data.toList), ?_, fun q u hu => ?_⟩
      · rw [hD]
        match ys, hyl2, e0, e1 with
        | [a, b], _, e0, e1 =>
          simp at e0 e1
          subst e0 e1
          rfl
      · match q, hu with
        | 0, hu => rw [show u = .string s' from (Option.some.inj hu).symm]; exact c0
        | 1, hu => rw [show u = .string r' from (Option.some.inj hu).symm]; exact c1
        | q + 2, hu => simp [mcs] at hu
    obtain ⟨f, hff⟩ : ∃ f : Nat → Mb, ∀ i, i < len → D i = ofMb (f i) ∧ ∀ q u, (mcs (f i))[q]? = some u → W.cell? (x.add (i * 2 + q)) = some u :=
      ⟨fun i => if hi : i < len then Classical.choose (hall i hi) else ([], []), fun i hi => by simp only [dif_pos hi]; exact Classical.choose_spec (hall i hi)⟩
    refine ⟨(List.range len).map f, ⟨some x, cap, by simp, by simpa using hl, by unfold maxLen at hm; omega, fun k F hF => ?_⟩, .inr ⟨(List.range (m - len)).map fun j => D (len + j), ?_⟩⟩
    · have hk : k < len := by
        rcases Nat.lt_or_ge k len with h | h
        · exact h
        · rw [List.getElem?_eq_none (by simpa using h)] at hF; cases hF
      have e : f k = F := by simpa [hk] using hF
      subst e
      refine ⟨x, rfl, ?_, (hff k hk).2⟩
      have := World.block_lt_of_cell? W _ ((hff k hk).2 0 _ rfl)
      rwa [block_of_add] at this
    · rw [hx.1, List.map_map]
      congr 1
      apply List.map_congr_left
      intro i hi
      exact (hff i (by simpa using hi)).1
theorem mem_weightsAll {H : Type} {P : Program} {e : TypeId} {d : DataW H} : ∀ {l : List (DataW H)}, d ∈ l → ∀ n ∈ d.weights P e, n ∈ DataW.weightsAll P e l
  | [], h, _, _ => by simp at h
  | x :: l, h, n, hn => by
    unfold DataW.weightsAll
    rcases List.mem_cons.1 h with rfl | h
    · exact List.mem_append_left _ hn
    · exact List.mem_append_right _ (mem_weightsAll h n hn)
set_option maxRecDepth 100000 in
theorem mb_sized {H : Type} {ts : List TypeId} {ds : List (DataW H)} (h : (DataW.weightsEach Tryd.prog ts ds).all (· ≤ reachBytes) = true) {j : Nat} {d : DataW H} (ht : ts[j]? = some 46) (hd : ds[j]? = some d) {L : List Mb} (hL : OfMb d L) :
    ∀ m ∈ L, m.1.length ≤ 140737488355328 ∧ m.2.length ≤ 140737488355328 := by
  intro m hm
  rcases hL with ⟨rfl, _⟩ | ⟨spare, rfl⟩
  · simp at hm
  · have hb := reachBytes_lt
    have key : ∀ n ∈ (ofMb (H := H) m).weights Tryd.prog 100, n ≤ reachBytes := by
      intro n hn
      have h1 : n ∈ DataW.weights Tryd.prog 46 (.slice (L.map ofMb) spare : DataW H) := by
        unfold DataW.weights
        rw [Tryd.underlying46]
        exact List.mem_cons_of_mem _ (List.mem_append_left _ (mem_weightsAll (List.mem_map.2 ⟨m, hm, rfl⟩) n hn))
      have := List.all_eq_true.1 h _ (DataW.weights_mem_each ht hd n h1)
      simpa using this
    have hw : (ofMb (H := H) m).weights Tryd.prog 100 = [m.1.length, m.2.length] := by
      unfold ofMb DataW.weights
      rw [Tryd.underlying100]
      rfl
    rw [hw] at key
    have k1 := key m.1.length (by simp)
    have k2 := key m.2.length (by simp)
    omega
theorem sum_le {L : List Mb} {B : Nat} (h : ∀ m ∈ L, m.1.length ≤ B ∧ m.2.length ≤ B) : sizeM L ≤ L.length * (2 * B) := by
  induction L with
  | nil => simp [sizeM]
  | cons m L ih =>
    have i1 := ih (fun x hx => h x (List.mem_cons_of_mem _ hx))
    have i2 := h m (by simp)
    have e2 : sizeM (m :: L) = m.1.length + m.2.length + sizeM L := by simp [sizeM]
    rw [e2, List.length_cons, Nat.add_mul]
    omega
theorem bulk_mbs {H : Type} : ∀ L : List Mb, sizeM L + 3 * L.length ≤ Rows.uptoBulkAll (H := H) (L.map ofMb)
  | [] => by simp [sizeM]
  | m :: L => by
    have ih := bulk_mbs (H := H) L
    have e2 : sizeM (m :: L) = m.1.length + m.2.length + sizeM L := by simp [sizeM]
    rw [e2, List.map_cons, List.length_cons]
    simp only [Rows.uptoBulkAll, ofMb, Rows.uptoBulk]
    omega
theorem bulk_truchmanref44Member {H : Type} {l : List (DataW H)} (hb : Rows.uptoBulkAll l ≤ 1048576) (j : Nat) {d : DataW H} {L : List Mb} (hd : OfMb d L) (h : l[j]? = some d) : sizeM L + L.length ≤ 1048576 := by
  rcases hd with ⟨rfl, _⟩ | ⟨spare, rfl⟩
  · simp [sizeM]
  · have h1 := bulk_part j h
    simp only [Rows.uptoBulk] at h1
    have h2 := bulk_mbs (H := H) L
    omega
end Go.Proofs.YtgfdmdikiickpaaDoor
