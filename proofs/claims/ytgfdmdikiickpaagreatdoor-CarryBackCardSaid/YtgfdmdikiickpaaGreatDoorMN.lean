/-
  Texts for the laws of this seat, merged: Open, OpenFields, OpenMb.
-/
import Derived.Test.YtgfdmdikiickpaaGreatDoorRows
import Derived.WalkKit
import Derived.ProofKit
import Derived.OpenShut
import Derived.ShutString
import Derived.ChangeOld
import Derived.Below
import Derived.JoinedCond
import Derived.SizedLaws
import Derived.Deep.DeepHandedRow
import Derived.Lib.LaidTab
import Derived.Deep.Slices
import Derived.Deep.Fields
import Derived.Test.YtgfdmdikiickpaaGreatDoorMA
import Derived.Test.YtgfdmdikiickpaaGreatDoorMG
/-! Open -/
namespace Go.Proofs.YtgfdmdikiickpaaGreatDoor
open Go.ChangeShapes Go.WideShapes Go.ChangeAt Go.RowKit

theorem bulk_part {H : Type} {d : DataW H} {l : List (DataW H)} (j : Nat) (h : l[j]? = some d) : Rows.uptoBulk d ≤ Rows.uptoBulkAll l := by
  induction l generalizing j with
  | nil => simp at h
  | cons x r ih =>
    simp only [Rows.uptoBulkAll]
    cases j with
    | zero => simp at h; subst h; omega
    | succ j => simp at h; have := ih j h; omega
theorem bulk_string {H : Type} {l : List (DataW H)} (hb : Rows.uptoBulkAll l ≤ 1048576) (j : Nat) (s : List UInt8) (h : l[j]? = some (.lit (.string s))) : s.length ≤ 1048576 := by
  have := bulk_part j h
  simp only [Rows.uptoBulk] at this
  omega
theorem bulk_one {H : Type} (d : DataW H) : 1 ≤ Rows.uptoBulk d := by
  cases d with
  | lit l => cases l <;> simp [Rows.uptoBulk]
  | nil => simp [Rows.uptoBulk]
  | ptr d => simp [Rows.uptoBulk]
  | slice elems spare => simp [Rows.uptoBulk]
  | agg parts => simp [Rows.uptoBulk]
  | iface t d => simp [Rows.uptoBulk]
  | map entries => simp [Rows.uptoBulk]
  | held h => simp [Rows.uptoBulk]
theorem bulk_len {H : Type} (l : List (DataW H)) : l.length ≤ Rows.uptoBulkAll l := by
  induction l with
  | nil => simp [Rows.uptoBulkAll]
  | cons x r ih => have := bulk_one x; simp only [Rows.uptoBulkAll, List.length_cons]; omega

theorem bt_wf {n : Int} (h : (Lit.int .u8 n).wf = true) : b8 (bt n) = .int .u8 n := by
  have hx : 0 ≤ n ∧ n ≤ 255 := by simpa [Lit.wf, IntKind.min, IntKind.max, IntKind.signed, IntKind.bits] using h
  exact b8_bt n hx.1 hx.2
set_option maxRecDepth 100000 in
/-- A slice of bytes that came in: the bytes that it holds. -/
theorem open_bytes {H : Type} {enc : TypeId × Value → H} {W : World} {base : Nat} {v : Value} {d : DataW H} {p : List MemPlace}
    (hv : Value.okWide Tryz.prog W .any base 117 v) (h : DataW.Trod enc Tryz.prog W 0 (fun _ => true) true 117 v d p) :
    ∃ l : List UInt8, Bs W W.heap.size v l ∧ ((l = [] ∧ d = .nil) ∨ ∃ elems spare : List (DataW H), d = .slice elems spare ∧ elems.length = l.length) := by
  obtain ⟨a, len, cap, rfl⟩ := okWide_slice Tryz.underlying117 hv
  obtain ⟨fuel, hf⟩ := h
  rcases open_ints Tryz.underlying117 Tryz.underlying5 (by kernel_rfl) hf with ⟨hcs, hx⟩ | ⟨x, len', cap', zs, hcs, _, hl, hm, hz, hx, hcell, hwz⟩
  · simp [Value.cells] at hcs
    obtain ⟨rfl, rfl, rfl⟩ := hcs
    simp only [Prod.mk.injEq] at hx
    exact ⟨[], ⟨none, 0, rfl, Nat.le_refl _, Reads.none_⟩, .inl ⟨rfl, hx.1⟩⟩
  · simp [Value.cells] at hcs
    obtain ⟨rfl, rfl, rfl⟩ := hcs
    simp only [Prod.mk.injEq] at hx
    have hz' : zs.length = cap := by simpa using hz
    have hlen : ((zs.take len).map bt).length = len := by simp; omega
    refine ⟨(zs.take len).map bt, ⟨some x, cap, by rw [hlen], by rw [hlen]; exact hl, ?_⟩, .inr ⟨_, _, hx.1, by simp [lits]⟩⟩
    rw [hlen]
    refine ⟨by simp; omega, fun hn => ?_⟩
    have hblk : x.block < W.heap.size := by
      have := World.block_lt_of_cell? W _ (hcell 0 (by omega))
      rwa [block_of_add] at this
    refine ⟨x, rfl, hblk, fun j u hu => ?_⟩
    have hj : j < len := by
      rcases Nat.lt_or_ge j len with h | h
      · exact h
      · rw [List.getElem?_eq_none (by simp; omega)] at hu; cases hu
    have hjz : j < zs.length := by omega
    have e : (b8s ((zs.take len).map bt))[j]? = some (b8 (bt zs[j])) := by
      simp [b8s, hj, hjz]
    rw [e] at hu
    injection hu with hu
    rw [hcell j (by omega), ← hu, bt_wf (hwz _ (List.getElem_mem hjz))]
    simp [List.getD, hjz]
theorem bulk_uint8 {H : Type} {l : List (DataW H)} (hb : Rows.uptoBulkAll l ≤ 1048576) (j : Nat) {d : DataW H} {n : List UInt8}
    (hd : (n = [] ∧ d = .nil) ∨ ∃ elems spare : List (DataW H), d = .slice elems spare ∧ elems.length = n.length) (h : l[j]? = some d) : n.length ≤ 1048576 := by
  rcases hd with ⟨rfl, _⟩ | ⟨elems, spare, rfl, e⟩
  · simp
  · have h1 := bulk_part j h
    simp only [Rows.uptoBulk] at h1
    have h2 := bulk_len elems
    omega
end Go.Proofs.YtgfdmdikiickpaaGreatDoor

/-! OpenFields -/
namespace Go.Proofs.YtgfdmdikiickpaaGreatDoor
open Go.ChangeShapes Go.WideShapes Go.Deep Go.RowKit
section
variable {H : Type} {enc : TypeId × Value → H} {P : Program} {w : World} {base : Nat} {spare : Nat → Bool} {held : Bool}
theorem open_slice_fields {t e : TypeId} {fs : Array Field} {fuel : Nat} {cs : List Value} {x : DataW H × List MemPlace} (ht : P.underlying t = some (.slice e)) (he : P.underlying e = some (.struct fs))
    (hone : oneCellFields P fs = true) (hC : P.cellsOf e = fs.size) (h : DataW.trod enc P w base spare held fuel t cs = some x) :
    (cs = [.slice none 0 0] ∧ x = (.nil, [])) ∨
    ∃ (a : Addr) (len cap m : Nat) (D : Nat → DataW H) (Pl : Nat → List MemPlace), cs = [.slice (some a) len cap] ∧ base ≤ a.block ∧ len ≤ cap ∧ cap ≤ maxLen ∧ m = (if spare a.block then cap else len) ∧
      x = (.slice ((List.range len).map D) ((List.range (m - len)).map fun j => D (len + j)), MemPlace.row a (m * fs.size) ++ (List.range m).flatMap Pl) ∧
      ∀ i, i < m → ∃ (ys : List (DataW H × List MemPlace)) (n : Nat), D i = .agg (ys.map (·.1)) ∧ Pl i = ys.flatMap (·.2) ∧ ys.length = fs.size ∧
        ∀ (j : Nat) (f : Field), fs[j]? = some f → ∃ (v : Value) (y : DataW H × List MemPlace), w.cell? (a.add (i * fs.size + j)) = some v ∧ ys[j]? = some y ∧ DataW.trod enc P w base spare held n f.type [v] = some y := by
  rcases open_slice ht h with h0 | ⟨a, len, cap, m, n, D, Pl, hcs, hb, hl, hm, hmm, hx, hi⟩
  · exact .inl h0
  · refine .inr ⟨a, len, cap, m, D, Pl, hcs, hb, hl, hm, hmm, by rw [hC] at hx; exact hx, fun i him => ?_⟩
    obtain ⟨cs', hc, ht'⟩ := hi i him
    rw [hC] at hc
    obtain ⟨ys, n', hn', hy, hlen, hyl, hf⟩ := DataW.trod_struct he ht'
    obtain ⟨_, hcl, hat⟩ := World.cells?_some hc
    simp only [Prod.mk.injEq] at hy
    refine ⟨ys, n', hy.1, hy.2, hyl, fun j f hj => ?_⟩
    obtain ⟨ho, hk⟩ := hone_of hone j f hj
    have hjl : j < fs.size := (Array.getElem?_eq_some_iff.1 hj).1
    have hcell := hat j hjl
    have hv : cs'[j]? = some (cs'[j]'(by omega)) := List.getElem?_eq_getElem (by omega)
    have h1 := hf j f hj
    rw [ho, hk] at h1
    have hone' : (cs'.drop j).take 1 = [cs'[j]'(by omega)] := by
      rw [List.drop_eq_getElem_cons (by omega)]
      rfl
    rw [hone'] at h1
    have hys : ys[j]? = some (ys[j]'(by omega)) := List.getElem?_eq_getElem (by omega)
    refine ⟨_, _, ?_, hys, h1.trans hys⟩
    rw [← Go.Deep.add_add, hcell, hv]
end
theorem int_bd {k : IntKind} {n : Int} (h : (Lit.int k n).wf = true) : k.min ≤ n ∧ n ≤ k.max := by simpa [Lit.wf] using h
end Go.Proofs.YtgfdmdikiickpaaGreatDoor

/-! OpenMb -/
namespace Go.Proofs.YtgfdmdikiickpaaGreatDoor
open Go.ChangeShapes Go.WideShapes Go.Deep Go.RowKit

def ofMb {H : Type} (m : Mb) : DataW H := .agg [.lit (.string m.1), .lit (.string m.2)]
def OfMb {H : Type} (d : DataW H) (L : List Mb) : Prop := (L = [] ∧ d = .nil) ∨ ∃ spare : List (DataW H), d = .slice (L.map ofMb) spare
set_option maxRecDepth 100000 in
theorem open_Sltruchmanref44Member {H : Type} {enc : TypeId × Value → H} {W : World} {base : Nat} {v : Value} {d : DataW H} {p : List MemPlace}
    (hv : Value.okWide Tryz.prog W .any base 38 v) (h : DataW.Trod enc Tryz.prog W 0 (fun _ => true) true 38 v d p) :
    ∃ L : List Mb, (∃ A cap, v = .slice A L.length cap ∧ L.length ≤ cap ∧ cap ≤ 9223372036854775807 ∧ Mbs W W.heap.size A L) ∧ OfMb d L := by
  obtain ⟨a, len, cap, rfl⟩ := okWide_slice Tryz.underlying38 hv
  obtain ⟨fuel, hf⟩ := h
  rcases open_slice_fields Tryz.underlying38 Tryz.underlying81 (by kernel_rfl) (by kernel_rfl) hf with ⟨hcs, hx⟩ | ⟨x, len', cap', m, D, Pl, hcs, _, hl, hm, hmm, hx, hi⟩
  · simp [Value.cells] at hcs
    obtain ⟨rfl, rfl, rfl⟩ := hcs
    simp only [Prod.mk.injEq] at hx
    exact ⟨[], ⟨none, 0, rfl, Nat.le_refl _, by omega, Mbs.nil W W.heap.size none⟩, .inl ⟨rfl, hx.1⟩⟩
  · simp [Value.cells] at hcs
    obtain ⟨rfl, rfl, rfl⟩ := hcs
    simp only [if_true] at hmm
    simp only [Prod.mk.injEq] at hx
    have hall : ∀ i, i < len → ∃ F : Mb, D i = ofMb F ∧ ∀ q u, (mcs F)[q]? = some u → W.cell? (x.add (i * 2 + q)) = some u := by
      intro i hil
      obtain ⟨ys, n, hD, _, hyl, hfs⟩ := hi i (by omega)
      obtain ⟨v0, y0, c0, e0, t0⟩ := hfs 0 _ rfl
      obtain ⟨v1, y1, c1, e1, t1⟩ := hfs 1 _ rfl
      obtain ⟨s', f0, g0, _⟩ := DataW.trod_string Tryz.underlying9 t0
      obtain ⟨r', f1, g1, _⟩ := DataW.trod_string Tryz.underlying9 t1
      simp at f0 f1
      subst f0 f1 g0 g1
      have hyl2 : ys.length = 2 := hyl
      refine ⟨(s'.data.toList, r'.data.toList), ?_, fun q u hu => ?_⟩
      · rw [hD]
        match ys, hyl2, e0, e1 with
        | [a, b], _, e0, e1 =>
          simp at e0 e1
          subst e0 e1
          rfl
      · match q, hu with
        | 0, hu => rw [show u = .string s' from (Option.some.inj hu).symm]; exact c0
        | 1, hu => rw [show u = .string r' from (Option.some.inj hu).symm]; exact c1
        | q + 2, hu => simp [mcs] at hu
    obtain ⟨f, hff⟩ : ∃ f : Nat → Mb, ∀ i, i < len → D i = ofMb (f i) ∧ ∀ q u, (mcs (f i))[q]? = some u → W.cell? (x.add (i * 2 + q)) = some u :=
      ⟨fun i => if hi : i < len then Classical.choose (hall i hi) else ([], []), fun i hi => by simp only [dif_pos hi]; exact Classical.choose_spec (hall i hi)⟩
    refine ⟨(List.range len).map f, ⟨some x, cap, by simp, by simpa using hl, by unfold maxLen at hm; omega, fun k F hF => ?_⟩, .inr ⟨(List.range (m - len)).map fun j => D (len + j), ?_⟩⟩
    · have hk : k < len := by
        rcases Nat.lt_or_ge k len with h | h
        · exact h
        · rw [List.getElem?_eq_none (by simpa using h)] at hF; cases hF
      have e : f k = F := by simpa [hk] using hF
      subst e
      refine ⟨x, rfl, ?_, (hff k hk).2⟩
      have := World.block_lt_of_cell? W _ ((hff k hk).2 0 _ rfl)
      rwa [block_of_add] at this
    · rw [hx.1, List.map_map]
      congr 1
      apply List.map_congr_left
      intro i hi
      exact (hff i (by simpa using hi)).1
theorem mem_weightsAll {H : Type} {P : Program} {e : TypeId} {d : DataW H} : ∀ {l : List (DataW H)}, d ∈ l → ∀ n ∈ d.weights P e, n ∈ DataW.weightsAll P e l
  | [], h, _, _ => by simp at h
  | x :: l, h, n, hn => by
    unfold DataW.weightsAll
    rcases List.mem_cons.1 h with rfl | h
    · exact List.mem_append_left _ hn
    · exact List.mem_append_right _ (mem_weightsAll h n hn)
set_option maxRecDepth 100000 in
theorem mb_sized {H : Type} {ts : List TypeId} {ds : List (DataW H)} (h : (DataW.weightsEach Tryz.prog ts ds).all (· ≤ reachBytes) = true) {j : Nat} {d : DataW H} (ht : ts[j]? = some 38) (hd : ds[j]? = some d) {L : List Mb} (hL : OfMb d L) :
    ∀ m ∈ L, m.1.length ≤ 140737488355328 ∧ m.2.length ≤ 140737488355328 := by
  intro m hm
  rcases hL with ⟨rfl, _⟩ | ⟨spare, rfl⟩
  · simp at hm
  · have hb := reachBytes_lt
    have key : ∀ n ∈ (ofMb (H := H) m).weights Tryz.prog 81, n ≤ reachBytes := by
      intro n hn
      have h1 : n ∈ DataW.weights Tryz.prog 38 (.slice (L.map ofMb) spare : DataW H) := by
        unfold DataW.weights
        rw [Tryz.underlying38]
        exact List.mem_cons_of_mem _ (List.mem_append_left _ (mem_weightsAll (List.mem_map.2 ⟨m, hm, rfl⟩) n hn))
      have := List.all_eq_true.1 h _ (DataW.weights_mem_each ht hd n h1)
      simpa using this
    have hw : (ofMb (H := H) m).weights Tryz.prog 81 = [m.1.length, m.2.length] := by
      unfold ofMb DataW.weights
      rw [Tryz.underlying81]
      rfl
    rw [hw] at key
    have k1 := key m.1.length (by simp)
    have k2 := key m.2.length (by simp)
    omega
theorem sum_le {L : List Mb} {B : Nat} (h : ∀ m ∈ L, m.1.length ≤ B ∧ m.2.length ≤ B) : sizeM L ≤ L.length * (2 * B) := by
  induction L with
  | nil => simp [sizeM]
  | cons m L ih =>
    have i1 := ih (fun x hx => h x (List.mem_cons_of_mem _ hx))
    have i2 := h m (by simp)
    have e2 : sizeM (m :: L) = m.1.length + m.2.length + sizeM L := by simp [sizeM]
    rw [e2, List.length_cons, Nat.add_mul]
    omega
theorem bulk_mbs {H : Type} : ∀ L : List Mb, sizeM L + 3 * L.length ≤ Rows.uptoBulkAll (H := H) (L.map ofMb)
  | [] => by simp [sizeM]
  | m :: L => by
    have ih := bulk_mbs (H := H) L
    have e2 : sizeM (m :: L) = m.1.length + m.2.length + sizeM L := by simp [sizeM]
    rw [e2, List.map_cons, List.length_cons]
    simp only [Rows.uptoBulkAll, ofMb, Rows.uptoBulk]
    omega
theorem bulk_truchmanref44Member {H : Type} {l : List (DataW H)} (hb : Rows.uptoBulkAll l ≤ 1048576) (j : Nat) {d : DataW H} {L : List Mb} (hd : OfMb d L) (h : l[j]? = some d) : sizeM L + L.length ≤ 1048576 := by
  rcases hd with ⟨rfl, _⟩ | ⟨spare, rfl⟩
  · simp [sizeM]
  · have h1 := bulk_part j h
    simp only [Rows.uptoBulk] at h1
    have h2 := bulk_mbs (H := H) L
    omega
end Go.Proofs.YtgfdmdikiickpaaGreatDoor
