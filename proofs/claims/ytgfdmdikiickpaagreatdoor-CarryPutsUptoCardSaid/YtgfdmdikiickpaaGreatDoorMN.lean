/-
  Texts for the laws of this seat, merged: Open, OpenFields, OpenMb, OpenArr, OpenName, OpenHdr.
-/
import Derived.Test.YtgfdmdikiickpaaGreatDoorRows
import Derived.WalkKit
import Derived.ProofKit
import Derived.OpenShut
import Derived.ShutString
import Derived.ChangeOld
import Derived.Below
import Derived.JoinedCond
import Derived.SizedLaws
import Derived.Deep.DeepHandedRow
import Derived.Lib.LaidTab
import Derived.Deep.Slices
import Derived.Deep.Fields
import Derived.Test.YtgfdmdikiickpaaGreatDoorMA
import Derived.Test.YtgfdmdikiickpaaGreatDoorMC
import Derived.Test.YtgfdmdikiickpaaGreatDoorMG
/-! Open -/
namespace Go.Proofs.YtgfdmdikiickpaaGreatDoor
open Go.ChangeShapes Go.WideShapes Go.ChangeAt Go.RowKit

theorem bulk_part {H : Type} {d : DataW H} {l : List (DataW H)} (j : Nat) (h : l[j]? = some d) : Rows.uptoBulk d ≤ Rows.uptoBulkAll l := by
  induction l generalizing j with
  | nil => simp at h
  | cons x r ih =>
    simp only [Rows.uptoBulkAll]
    cases j with
    | zero => simp at h; subst h; omega
    | succ j => simp at h; have := ih j h; omega
theorem bulk_string {H : Type} {l : List (DataW H)} (hb : Rows.uptoBulkAll l ≤ 1048576) (j : Nat) (s : List UInt8) (h : l[j]? = some (.lit (.string s))) : s.length ≤ 1048576 := by
  have := bulk_part j h
  simp only [Rows.uptoBulk] at this
  omega
theorem bulk_one {H : Type} (d : DataW H) : 1 ≤ Rows.uptoBulk d := by
  cases d with
  | lit l => cases l <;> simp [Rows.uptoBulk]
  | nil => simp [Rows.uptoBulk]
  | ptr d => simp [Rows.uptoBulk]
  | slice elems spare => simp [Rows.uptoBulk]
  | agg parts => simp [Rows.uptoBulk]
  | iface t d => simp [Rows.uptoBulk]
  | map entries => simp [Rows.uptoBulk]
  | held h => simp [Rows.uptoBulk]
theorem bulk_len {H : Type} (l : List (DataW H)) : l.length ≤ Rows.uptoBulkAll l := by
  induction l with
  | nil => simp [Rows.uptoBulkAll]
  | cons x r ih => have := bulk_one x; simp only [Rows.uptoBulkAll, List.length_cons]; omega

theorem bt_wf {n : Int} (h : (Lit.int .u8 n).wf = true) : b8 (bt n) = .int .u8 n := by
  have hx : 0 ≤ n ∧ n ≤ 255 := by simpa [Lit.wf, IntKind.min, IntKind.max, IntKind.signed, IntKind.bits] using h
  exact b8_bt n hx.1 hx.2
set_option maxRecDepth 100000 in
/-- A slice of bytes that came in: the bytes that it holds. -/
theorem open_bytes {H : Type} {enc : TypeId × Value → H} {W : World} {base : Nat} {v : Value} {d : DataW H} {p : List MemPlace}
    (hv : Value.okWide Tryz.prog W .any base 117 v) (h : DataW.Trod enc Tryz.prog W 0 (fun _ => true) true 117 v d p) :
    ∃ l : List UInt8, Bs W W.heap.size v l ∧ ((l = [] ∧ d = .nil) ∨ ∃ elems spare : List (DataW H), d = .slice elems spare ∧ elems.length = l.length) := by
  obtain ⟨a, len, cap, rfl⟩ := okWide_slice Tryz.underlying117 hv
  obtain ⟨fuel, hf⟩ := h
  rcases open_ints Tryz.underlying117 Tryz.underlying5 (by kernel_rfl) hf with ⟨hcs, hx⟩ | ⟨x, len', cap', zs, hcs, _, hl, hm, hz, hx, hcell, hwz⟩
  · simp [Value.cells] at hcs
    obtain ⟨rfl, rfl, rfl⟩ := hcs
    simp only [Prod.mk.injEq] at hx
    exact ⟨[], ⟨none, 0, rfl, Nat.le_refl _, Reads.none_⟩, .inl ⟨rfl, hx.1⟩⟩
  · simp [Value.cells] at hcs
    obtain ⟨rfl, rfl, rfl⟩ := hcs
    simp only [Prod.mk.injEq] at hx
    have hz' : zs.length = cap := by simpa using hz
    have hlen : ((zs.take len).map bt).length = len := by simp; omega
    refine ⟨(zs.take len).map bt, ⟨some x, cap, by rw [hlen], by rw [hlen]; exact hl, ?_⟩, .inr ⟨_, _, hx.1, by simp [lits]⟩⟩
    rw [hlen]
    refine ⟨by simp; omega, fun hn => ?_⟩
    have hblk : x.block < W.heap.size := by
      have := World.block_lt_of_cell? W _ (hcell 0 (by omega))
      rwa [block_of_add] at this
    refine ⟨x, rfl, hblk, fun j u hu => ?_⟩
    have hj : j < len := by
      rcases Nat.lt_or_ge j len with h | h
      · exact h
      · rw [List.getElem?_eq_none (by simp; omega)] at hu; cases hu
    have hjz : j < zs.length := by omega
    have e : (b8s ((zs.take len).map bt))[j]? = some (b8 (bt zs[j])) := by
      simp [b8s, hj, hjz]
    rw [e] at hu
    injection hu with hu
    rw [hcell j (by omega), ← hu, bt_wf (hwz _ (List.getElem_mem hjz))]
    simp [List.getD, hjz]
theorem bulk_uint8 {H : Type} {l : List (DataW H)} (hb : Rows.uptoBulkAll l ≤ 1048576) (j : Nat) {d : DataW H} {n : List UInt8}
    (hd : (n = [] ∧ d = .nil) ∨ ∃ elems spare : List (DataW H), d = .slice elems spare ∧ elems.length = n.length) (h : l[j]? = some d) : n.length ≤ 1048576 := by
  rcases hd with ⟨rfl, _⟩ | ⟨elems, spare, rfl, e⟩
  · simp
  · have h1 := bulk_part j h
    simp only [Rows.uptoBulk] at h1
    have h2 := bulk_len elems
    omega
end Go.Proofs.YtgfdmdikiickpaaGreatDoor

/-! OpenFields -/
namespace Go.Proofs.YtgfdmdikiickpaaGreatDoor
open Go.ChangeShapes Go.WideShapes Go.Deep Go.RowKit
section
variable {H : Type} {enc : TypeId × Value → H} {P : Program} {w : World} {base : Nat} {spare : Nat → Bool} {held : Bool}
theorem open_slice_fields {t e : TypeId} {fs : Array Field} {fuel : Nat} {cs : List Value} {x : DataW H × List MemPlace} (ht : P.underlying t = some (.slice e)) (he : P.underlying e = some (.struct fs))
    (hone : oneCellFields P fs = true) (hC : P.cellsOf e = fs.size) (h : DataW.trod enc P w base spare held fuel t cs = some x) :
    (cs = [.slice none 0 0] ∧ x = (.nil, [])) ∨
    ∃ (a : Addr) (len cap m : Nat) (D : Nat → DataW H) (Pl : Nat → List MemPlace), cs = [.slice (some a) len cap] ∧ base ≤ a.block ∧ len ≤ cap ∧ cap ≤ maxLen ∧ m = (if spare a.block then cap else len) ∧
      x = (.slice ((List.range len).map D) ((List.range (m - len)).map fun j => D (len + j)), MemPlace.row a (m * fs.size) ++ (List.range m).flatMap Pl) ∧
      ∀ i, i < m → ∃ (ys : List (DataW H × List MemPlace)) (n : Nat), D i = .agg (ys.map (·.1)) ∧ Pl i = ys.flatMap (·.2) ∧ ys.length = fs.size ∧
        ∀ (j : Nat) (f : Field), fs[j]? = some f → ∃ (v : Value) (y : DataW H × List MemPlace), w.cell? (a.add (i * fs.size + j)) = some v ∧ ys[j]? = some y ∧ DataW.trod enc P w base spare held n f.type [v] = some y := by
  rcases open_slice ht h with h0 | ⟨a, len, cap, m, n, D, Pl, hcs, hb, hl, hm, hmm, hx, hi⟩
  · exact .inl h0
  · refine .inr ⟨a, len, cap, m, D, Pl, hcs, hb, hl, hm, hmm, by rw [hC] at hx; exact hx, fun i him => ?_⟩
    obtain ⟨cs', hc, ht'⟩ := hi i him
    rw [hC] at hc
    obtain ⟨ys, n', hn', hy, hlen, hyl, hf⟩ := DataW.trod_struct he ht'
    obtain ⟨_, hcl, hat⟩ := World.cells?_some hc
    simp only [Prod.mk.injEq] at hy
    refine ⟨ys, n', hy.1, hy.2, hyl, fun j f hj => ?_⟩
    obtain ⟨ho, hk⟩ := hone_of hone j f hj
    have hjl : j < fs.size := (Array.getElem?_eq_some_iff.1 hj).1
    have hcell := hat j hjl
    have hv : cs'[j]? = some (cs'[j]'(by omega)) := List.getElem?_eq_getElem (by omega)
    have h1 := hf j f hj
    rw [ho, hk] at h1
    have hone' : (cs'.drop j).take 1 = [cs'[j]'(by omega)] := by
      rw [List.drop_eq_getElem_cons (by omega)]
      rfl
    rw [hone'] at h1
    have hys : ys[j]? = some (ys[j]'(by omega)) := List.getElem?_eq_getElem (by omega)
    refine ⟨_, _, ?_, hys, h1.trans hys⟩
    rw [← Go.Deep.add_add, hcell, hv]
end
theorem int_bd {k : IntKind} {n : Int} (h : (Lit.int k n).wf = true) : k.min ≤ n ∧ n ≤ k.max := by simpa [Lit.wf] using h
end Go.Proofs.YtgfdmdikiickpaaGreatDoor

/-! OpenMb -/
namespace Go.Proofs.YtgfdmdikiickpaaGreatDoor
open Go.ChangeShapes Go.WideShapes Go.Deep Go.RowKit

def ofMb {H : Type} (m : Mb) : DataW H := .agg [.lit (.string m.1), .lit (.string m.2)]
def OfMb {H : Type} (d : DataW H) (L : List Mb) : Prop := (L = [] ∧ d = .nil) ∨ ∃ spare : List (DataW H), d = .slice (L.map ofMb) spare
set_option maxRecDepth 100000 in
theorem open_Sltruchmanref44Member {H : Type} {enc : TypeId × Value → H} {W : World} {base : Nat} {v : Value} {d : DataW H} {p : List MemPlace}
    (hv : Value.okWide Tryz.prog W .any base 38 v) (h : DataW.Trod enc Tryz.prog W 0 (fun _ => true) true 38 v d p) :
    ∃ L : List Mb, (∃ A cap, v = .slice A L.length cap ∧ L.length ≤ cap ∧ cap ≤ 9223372036854775807 ∧ Mbs W W.heap.size A L) ∧ OfMb d L := by
  obtain ⟨a, len, cap, rfl⟩ := okWide_slice Tryz.underlying38 hv
  obtain ⟨fuel, hf⟩ := h
  rcases open_slice_fields Tryz.underlying38 Tryz.underlying81 (by kernel_rfl) (by kernel_rfl) hf with ⟨hcs, hx⟩ | ⟨x, len', cap', m, D, Pl, hcs, _, hl, hm, hmm, hx, hi⟩
  · simp [Value.cells] at hcs
    obtain ⟨rfl, rfl, rfl⟩ := hcs
    simp only [Prod.mk.injEq] at hx
    exact ⟨[], ⟨none, 0, rfl, Nat.le_refl _, by omega, Mbs.nil W W.heap.size none⟩, .inl ⟨rfl, hx.1⟩⟩
  · simp [Value.cells] at hcs
    obtain ⟨rfl, rfl, rfl⟩ := hcs
    simp only [if_true] at hmm
    simp only [Prod.mk.injEq] at hx
    have hall : ∀ i, i < len → ∃ F : Mb, D i = ofMb F ∧ ∀ q u, (mcs F)[q]? = some u → W.cell? (x.add (i * 2 + q)) = some u := by
      intro i hil
      obtain ⟨ys, n, hD, _, hyl, hfs⟩ := hi i (by omega)
      obtain ⟨v0, y0, c0, e0, t0⟩ := hfs 0 _ rfl
      obtain ⟨v1, y1, c1, e1, t1⟩ := hfs 1 _ rfl
      obtain ⟨s', f0, g0, _⟩ := DataW.trod_string Tryz.underlying9 t0
      obtain ⟨r', f1, g1, _⟩ := DataW.trod_string Tryz.underlying9 t1
      simp at f0 f1
      subst f0 f1 g0 g1
      have hyl2 : ys.length = 2 := hyl
      refine ⟨(s'.data.toList, r'.data.toList), ?_, fun q u hu => ?_⟩
      · rw [hD]
        match ys, hyl2, e0, e1 with
        | [a, b], _, e0, e1 =>
          simp at e0 e1
          subst e0 e1
          rfl
      · match q, hu with
        | 0, hu => rw [show u = .string s' from (Option.some.inj hu).symm]; exact c0
        | 1, hu => rw [show u = .string r' from (Option.some.inj hu).symm]; exact c1
        | q + 2, hu => simp [mcs] at hu
    obtain ⟨f, hff⟩ : ∃ f : Nat → Mb, ∀ i, i < len → D i = ofMb (f i) ∧ ∀ q u, (mcs (f i))[q]? = some u → W.cell? (x.add (i * 2 + q)) = some u :=
      ⟨fun i => if hi : i < len then Classical.choose (hall i hi) else ([], []), fun i hi => by simp only [dif_pos hi]; exact Classical.choose_spec (hall i hi)⟩
    refine ⟨(List.range len).map f, ⟨some x, cap, by simp, by simpa using hl, by unfold maxLen at hm; omega, fun k F hF => ?_⟩, .inr ⟨(List.range (m - len)).map fun j => D (len + j), ?_⟩⟩
    · have hk : k < len := by
        rcases Nat.lt_or_ge k len with h | h
        · exact h
        · rw [List.getElem?_eq_none (by simpa using h)] at hF; cases hF
      have e : f k = F := by simpa [hk] using hF
      subst e
      refine ⟨x, rfl, ?_, (hff k hk).2⟩
      have := World.block_lt_of_cell? W _ ((hff k hk).2 0 _ rfl)
      rwa [block_of_add] at this
    · rw [hx.1, List.map_map]
      congr 1
      apply List.map_congr_left
      intro i hi
      exact (hff i (by simpa using hi)).1
theorem mem_weightsAll {H : Type} {P : Program} {e : TypeId} {d : DataW H} : ∀ {l : List (DataW H)}, d ∈ l → ∀ n ∈ d.weights P e, n ∈ DataW.weightsAll P e l
  | [], h, _, _ => by simp at h
  | x :: l, h, n, hn => by
    unfold DataW.weightsAll
    rcases List.mem_cons.1 h with rfl | h
    · exact List.mem_append_left _ hn
    · exact List.mem_append_right _ (mem_weightsAll h n hn)
set_option maxRecDepth 100000 in
theorem mb_sized {H : Type} {ts : List TypeId} {ds : List (DataW H)} (h : (DataW.weightsEach Tryz.prog ts ds).all (· ≤ reachBytes) = true) {j : Nat} {d : DataW H} (ht : ts[j]? = some 38) (hd : ds[j]? = some d) {L : List Mb} (hL : OfMb d L) :
    ∀ m ∈ L, m.1.length ≤ 140737488355328 ∧ m.2.length ≤ 140737488355328 := by
  intro m hm
  rcases hL with ⟨rfl, _⟩ | ⟨spare, rfl⟩
  · simp at hm
  · have hb := reachBytes_lt
    have key : ∀ n ∈ (ofMb (H := H) m).weights Tryz.prog 81, n ≤ reachBytes := by
      intro n hn
      have h1 : n ∈ DataW.weights Tryz.prog 38 (.slice (L.map ofMb) spare : DataW H) := by
        unfold DataW.weights
        rw [Tryz.underlying38]
        exact List.mem_cons_of_mem _ (List.mem_append_left _ (mem_weightsAll (List.mem_map.2 ⟨m, hm, rfl⟩) n hn))
      have := List.all_eq_true.1 h _ (DataW.weights_mem_each ht hd n h1)
      simpa using this
    have hw : (ofMb (H := H) m).weights Tryz.prog 81 = [m.1.length, m.2.length] := by
      unfold ofMb DataW.weights
      rw [Tryz.underlying81]
      rfl
    rw [hw] at key
    have k1 := key m.1.length (by simp)
    have k2 := key m.2.length (by simp)
    omega
theorem sum_le {L : List Mb} {B : Nat} (h : ∀ m ∈ L, m.1.length ≤ B ∧ m.2.length ≤ B) : sizeM L ≤ L.length * (2 * B) := by
  induction L with
  | nil => simp [sizeM]
  | cons m L ih =>
    have i1 := ih (fun x hx => h x (List.mem_cons_of_mem _ hx))
    have i2 := h m (by simp)
    have e2 : sizeM (m :: L) = m.1.length + m.2.length + sizeM L := by simp [sizeM]
    rw [e2, List.length_cons, Nat.add_mul]
    omega
theorem bulk_mbs {H : Type} : ∀ L : List Mb, sizeM L + 3 * L.length ≤ Rows.uptoBulkAll (H := H) (L.map ofMb)
  | [] => by simp [sizeM]
  | m :: L => by
    have ih := bulk_mbs (H := H) L
    have e2 : sizeM (m :: L) = m.1.length + m.2.length + sizeM L := by simp [sizeM]
    rw [e2, List.map_cons, List.length_cons]
    simp only [Rows.uptoBulkAll, ofMb, Rows.uptoBulk]
    omega
theorem bulk_truchmanref44Member {H : Type} {l : List (DataW H)} (hb : Rows.uptoBulkAll l ≤ 1048576) (j : Nat) {d : DataW H} {L : List Mb} (hd : OfMb d L) (h : l[j]? = some d) : sizeM L + L.length ≤ 1048576 := by
  rcases hd with ⟨rfl, _⟩ | ⟨spare, rfl⟩
  · simp [sizeM]
  · have h1 := bulk_part j h
    simp only [Rows.uptoBulk] at h1
    have h2 := bulk_mbs (H := H) L
    omega
end Go.Proofs.YtgfdmdikiickpaaGreatDoor

/-! OpenArr -/
namespace Go.Proofs.YtgfdmdikiickpaaGreatDoor
open Go.ChangeShapes Go.WideShapes Go.ChangeAt Go.RowKit

theorem mapM_each {α β : Type} {f : α → Option β} : ∀ {l : List α} {ys : List β}, l.mapM f = some ys → ∀ a ∈ l, ∃ y, f a = some y
  | [], _, _ => fun a h => absurd h (by simp)
  | b :: l, ys, h => by
    rw [List.mapM_cons] at h
    intro a ha
    cases hb : f b with
    | none => rw [hb] at h; cases h
    | some y =>
      rw [hb] at h
      cases hl : l.mapM f with
      | none => rw [hl] at h; cases h
      | some zs =>
        rcases List.mem_cons.1 ha with rfl | ha
        · exact ⟨y, hb⟩
        · exact mapM_each hl a ha
theorem trod_array_each {H : Type} {enc : TypeId × Value → H} {P : Program} {w : World} {base : Nat} {spare : Nat → Bool} {held : Bool} {fuel n : Nat} {t e : TypeId} {cs : List Value} {x : DataW H × List MemPlace}
    (ht : P.underlying t = some (.array n e)) (h : DataW.trod enc P w base spare held fuel t cs = some x) :
    ∃ m, cs.length = P.cellsOf t ∧ ∀ i, i < n → ∃ y, DataW.trod enc P w base spare held m e ((cs.drop (i * P.cellsOf e)).take (P.cellsOf e)) = some y := by
  cases fuel with
  | zero => simp [DataW.trod] at h
  | succ m =>
    unfold DataW.trod at h
    rw [ht] at h
    simp only [] at h
    split at h
    · rename_i hl
      refine ⟨m, hl, fun i hi => ?_⟩
      cases hm : (List.range n).mapM (fun i => DataW.trod enc P w base spare held m e ((cs.drop (i * P.cellsOf e)).take (P.cellsOf e))) with
      | none => rw [hm] at h; cases h
      | some xs => exact mapM_each hm i (by simpa using hi)
    · cases h
theorem okWide_array {P : Program} {w : World} {r : Reach} {base n : Nat} {t e : TypeId} {v : Value} (ht : P.underlying t = some (.array n e)) (h : Value.okWide P w r base t v) : ∃ cs, v = .agg cs ∧ cs.size = P.cellsOf t := by
  unfold Value.okWide at h
  rw [ht] at h
  obtain ⟨cs, rfl, hs, _⟩ := h
  exact ⟨cs, rfl, hs⟩
theorem open_arr {H : Type} {enc : TypeId × Value → H} {P : Program} {W : World} {base n : Nat} {t e : TypeId} {k : IntKind} {v : Value} {d : DataW H} {p : List MemPlace}
    (ht : P.underlying t = some (.array n e)) (he : P.underlying e = some (.int k)) (hce : P.cellsOf e = 1) (hct : P.cellsOf t = n)
    (hv : Value.okWide P W .any base t v) (h : DataW.Trod enc P W 0 (fun _ => true) true t v d p) :
    ∃ l : List Int, l.length = n ∧ v = .agg (l.map (Value.int k)).toArray ∧ ∀ x ∈ l, (Lit.int k x).wf = true := by
  obtain ⟨cs, rfl, hsz⟩ := okWide_array ht hv
  obtain ⟨fuel, hf⟩ := h
  obtain ⟨m, hl, hi⟩ := trod_array_each ht hf
  have hcs : (Value.agg cs).cells.toList = cs.toList := rfl
  rw [hcs] at hi
  have hall : ∀ i, i < n → ∃ z : Int, cs.toList[i]? = some (.int k z) ∧ (Lit.int k z).wf = true := by
    intro i hin
    obtain ⟨y, hy⟩ := hi i hin
    rw [hce, Nat.mul_one] at hy
    have hlt : i < cs.toList.length := by rw [Array.length_toList]; omega
    rw [List.drop_eq_getElem_cons hlt, List.take_succ_cons, List.take_zero] at hy
    obtain ⟨z, e1, _, wz⟩ := DataW.trod_int he hy
    refine ⟨z, ?_, wz⟩
    rw [List.getElem?_eq_getElem hlt]
    simpa using e1
  refine ⟨(List.range n).map (fun i => if hi : i < n then Classical.choose (hall i hi) else 0), by simp, ?_, ?_⟩
  · congr 1
    apply Array.ext'
    apply List.ext_getElem?
    intro i
    by_cases hin : i < n
    · rw [(Classical.choose_spec (hall i hin)).1]
      simp [hin]
    · rw [List.getElem?_eq_none (by rw [Array.length_toList]; omega), List.getElem?_eq_none (by simpa using hin)]
  · intro x hx
    obtain ⟨i, hi', rfl⟩ := List.mem_map.1 hx
    have hin : i < n := by simpa using hi'
    simp only [dif_pos hin]
    exact (Classical.choose_spec (hall i hin)).2
theorem int_bd64 {z : Int} (h : (Lit.int .i64 z).wf = true) : -9223372036854775808 ≤ z ∧ z ≤ 9223372036854775807 := by
  simpa [Lit.wf, IntKind.min, IntKind.max, IntKind.signed, IntKind.bits] using h
theorem int_bd8 {z : Int} (h : (Lit.int .u8 z).wf = true) : 0 ≤ z ∧ z ≤ 255 := by
  simpa [Lit.wf, IntKind.min, IntKind.max, IntKind.signed, IntKind.bits] using h
end Go.Proofs.YtgfdmdikiickpaaGreatDoor

/-! OpenName -/
namespace Go.Proofs.YtgfdmdikiickpaaGreatDoor
open Go.ChangeShapes Go.WideShapes Go.RowKit Go.ChangeAt

theorem bytes_of_trodN {H : Type} {enc : TypeId × Value → H} {P : Program} {w : World} {base : Nat} {spare : Nat → Bool} {held : Bool} {fuel n : Nat} {t e : TypeId} {cs : List Value} {x : DataW H × List MemPlace}
    (ht : P.underlying t = some (.array n e)) (he : P.underlying e = some (.int .u8)) (hce : P.cellsOf e = 1) (hct : P.cellsOf t = n) (h : DataW.trod enc P w base spare held fuel t cs = some x) :
    ∃ l : List UInt8, l.length = n ∧ cs = b8s l := by
  obtain ⟨m, hl, hi⟩ := trod_array_each ht h
  rw [hct] at hl
  have hall : ∀ i, i < n → ∃ z : Int, cs[i]? = some (.int .u8 z) ∧ 0 ≤ z ∧ z ≤ 255 := by
    intro i hin
    obtain ⟨y, hy⟩ := hi i hin
    rw [hce, Nat.mul_one] at hy
    have hlt : i < cs.length := by omega
    rw [List.drop_eq_getElem_cons hlt, List.take_succ_cons, List.take_zero] at hy
    obtain ⟨z, e1, _, wz⟩ := DataW.trod_int he hy
    refine ⟨z, ?_, int_bd8 wz⟩
    rw [List.getElem?_eq_getElem hlt]
    simpa using e1
  refine ⟨(List.range n).map (fun i => if hi : i < n then bt (Classical.choose (hall i hi)) else 0), by simp, ?_⟩
  apply List.ext_getElem?
  intro i
  by_cases hin : i < n
  · obtain ⟨h1, h2, h3⟩ := Classical.choose_spec (hall i hin)
    rw [h1]
    simp only [b8s, List.getElem?_map, List.getElem?_range hin, Option.map_some, dif_pos hin]
    rw [b8_bt _ h2 h3]
  · rw [List.getElem?_eq_none (by omega), List.getElem?_eq_none (by simpa using hin)]
set_option maxRecDepth 100000 in
theorem open_name {H : Type} {enc : TypeId × Value → H} {W : World} {base n : Nat} {t : TypeId} {v : Value} {d : DataW H} {p : List MemPlace} (ht : Tryz.prog.underlying t = some (.array n 5)) (hct : Tryz.prog.cellsOf t = n)
    (hv : Value.okWide Tryz.prog W .any base t v) (h : DataW.Trod enc Tryz.prog W 0 (fun _ => true) true t v d p) : ∃ l : List UInt8, (v = Av l ∧ l.length = n) ∧ True := by
  obtain ⟨cs, rfl, _⟩ := okWide_array ht hv
  obtain ⟨fuel, hf⟩ := h
  obtain ⟨l, hl, e⟩ := bytes_of_trodN ht Tryz.underlying5 (by kernel_rfl) hct hf
  refine ⟨l, ⟨?_, hl⟩, trivial⟩
  unfold Av
  congr 1
  exact Array.ext' (by rw [show cs.toList = b8s l from e])
set_option maxRecDepth 100000 in
theorem open_apiTraceID {H : Type} {enc : TypeId × Value → H} {W : World} {base : Nat} {v : Value} {d : DataW H} {p : List MemPlace}
    (hv : Value.okWide Tryz.prog W .any base 27 v) (h : DataW.Trod enc Tryz.prog W 0 (fun _ => true) true 27 v d p) : ∃ l : List UInt8, (v = Av l ∧ l.length = 16) ∧ True :=
  open_name Tryz.underlying27 (by kernel_rfl) hv h
set_option maxRecDepth 100000 in
theorem open_apiSpanID {H : Type} {enc : TypeId × Value → H} {W : World} {base : Nat} {v : Value} {d : DataW H} {p : List MemPlace}
    (hv : Value.okWide Tryz.prog W .any base 29 v) (h : DataW.Trod enc Tryz.prog W 0 (fun _ => true) true 29 v d p) : ∃ l : List UInt8, (v = Av l ∧ l.length = 8) ∧ True :=
  open_name Tryz.underlying29 (by kernel_rfl) hv h
end Go.Proofs.YtgfdmdikiickpaaGreatDoor

/-! OpenHdr -/
namespace Go.Proofs.YtgfdmdikiickpaaGreatDoor
open Go.ChangeShapes Go.WideShapes Go.RowKit Go.ChangeAt

theorem split4 (cs : List Value) (a b c d : Nat) (h : cs.length = a + b + c + d) : cs = (cs.drop 0).take a ++ (cs.drop a).take b ++ (cs.drop (a + b)).take c ++ (cs.drop (a + b + c)).take d := by
  rw [List.drop_zero, ← List.take_add, ← List.take_add, ← List.take_add, List.take_of_length_le (by omega)]
theorem field_trod {H : Type} {enc : TypeId × Value → H} {w : World} {base : Nat} {spare : Nat → Bool} {held : Bool} {n i T ty off sz : Nat} {cs : List Value} {ys : List (DataW H × List MemPlace)}
    (hf : ∀ (j : Nat) (f : Field), (Tryz.prog.fieldsOf T)[j]? = some f → ys[j]? = DataW.trod enc Tryz.prog w base spare held n f.type ((cs.drop f.offset).take (Tryz.prog.cellsOf f.type)))
    (hl : i < ys.length) (hi : ((Tryz.prog.fieldsOf T).toList.map (fun f => (f.name == "_", f.type, f.offset)))[i]? = some (false, ty, off)) (hc : Tryz.prog.cellsOf ty = sz) :
    ∃ y, DataW.trod enc Tryz.prog w base spare held n ty ((cs.drop off).take sz) = some y := by
  obtain ⟨f, e, t0, o0⟩ := field_at hi
  have h := hf i f e
  rw [t0, o0, hc, List.getElem?_eq_getElem hl] at h
  exact ⟨_, h.symm⟩
set_option maxRecDepth 100000 in
theorem open_truchmanref43Header {H : Type} {enc : TypeId × Value → H} {W : World} {base : Nat} {v : Value} {d : DataW H} {p : List MemPlace}
    (hv : Value.okWide Tryz.prog W .any base 56 v) (h : DataW.Trod enc Tryz.prog W 0 (fun _ => true) true 56 v d p) :
    ∃ r : Int × List UInt8 × List UInt8 × Int, (v = Hv r.1 r.2.1 r.2.2.1 r.2.2.2 ∧ r.2.1.length = 16 ∧ r.2.2.1.length = 8 ∧ 0 ≤ r.2.2.2 ∧ r.2.2.2 ≤ 255) ∧ True := by
  obtain ⟨cs, rfl, _⟩ := WideShapes.okWide_struct und_rhdr hv
  obtain ⟨fuel, hf⟩ := h
  obtain ⟨ys, n, _, _, hlen, hyl, hfs⟩ := DataW.trod_struct und_rhdr hf
  have hsz : Tryz.prog.cellsOf 56 = 26 := by kernel_rfl
  have hs : (Tryz.prog.fieldsOf 56).size = 4 := by
    have := congrArg List.length fields_rhdr
    simpa using this
  rw [hsz] at hlen
  have hc16 : Tryz.prog.cellsOf 27 = 16 := by kernel_rfl
  have hc8 : Tryz.prog.cellsOf 29 = 8 := by kernel_rfl
  have hc1 : Tryz.prog.cellsOf 5 = 1 := by kernel_rfl
  have hfs' : ∀ (j : Nat) (f : Field), (Tryz.prog.fieldsOf 56)[j]? = some f → ys[j]? = DataW.trod enc Tryz.prog W 0 (fun _ => true) true n f.type (((Value.agg cs).cells.toList.drop f.offset).take (Tryz.prog.cellsOf f.type)) := fun j f hj => (hfs j f hj).symm
  obtain ⟨y0, h0⟩ := field_trod (i := 0) (ty := 5) (off := 0) (sz := 1) hfs' (by omega) (by rw [fields_rhdr]; rfl) hc1
  obtain ⟨y1, h1⟩ := field_trod (i := 1) (ty := 27) (off := 1) (sz := 16) hfs' (by omega) (by rw [fields_rhdr]; rfl) hc16
  obtain ⟨y2, h2⟩ := field_trod (i := 2) (ty := 29) (off := 17) (sz := 8) hfs' (by omega) (by rw [fields_rhdr]; rfl) hc8
  obtain ⟨y3, h3⟩ := field_trod (i := 3) (ty := 5) (off := 25) (sz := 1) hfs' (by omega) (by rw [fields_rhdr]; rfl) hc1
  have hsp := split4 (Value.agg cs).cells.toList 1 16 8 1 hlen
  obtain ⟨z0, e0, _, w0⟩ := DataW.trod_int Tryz.underlying5 h0
  obtain ⟨t, ht, e1⟩ := bytes_of_trodN Tryz.underlying27 Tryz.underlying5 hc1 hc16 h1
  obtain ⟨x, hx, e2⟩ := bytes_of_trodN Tryz.underlying29 Tryz.underlying5 hc1 hc8 h2
  obtain ⟨z3, e3, _, w3⟩ := DataW.trod_int Tryz.underlying5 h3
  rw [e0, e1, e2, e3] at hsp
  have hb := int_bd8 w3
  refine ⟨(z0, t, x, z3), ⟨?_, ht, hx, hb.1, hb.2⟩, trivial⟩
  unfold Hv
  congr 1
  exact Array.ext' (by rw [show cs.toList = _ from hsp]; simp [hc])
set_option maxRecDepth 100000 in
theorem open_apiContext {H : Type} {enc : TypeId × Value → H} {W : World} {base : Nat} {v : Value} {d : DataW H} {p : List MemPlace}
    (hv : Value.okWide Tryz.prog W .any base 31 v) (h : DataW.Trod enc Tryz.prog W 0 (fun _ => true) true 31 v d p) :
    ∃ r : List UInt8 × List UInt8 × List UInt8 × Int, (v = Cv r.1 r.2.1 r.2.2.1 r.2.2.2 ∧ r.1.length = 16 ∧ r.2.1.length = 8 ∧ r.2.2.1.length = 8 ∧ -9223372036854775808 ≤ r.2.2.2 ∧ r.2.2.2 ≤ 9223372036854775807) ∧ True := by
  obtain ⟨cs, rfl, _⟩ := WideShapes.okWide_struct und_ctx hv
  obtain ⟨fuel, hf⟩ := h
  obtain ⟨ys, n, _, _, hlen, hyl, hfs⟩ := DataW.trod_struct und_ctx hf
  have hsz : Tryz.prog.cellsOf 31 = 33 := by kernel_rfl
  have hs : (Tryz.prog.fieldsOf 31).size = 4 := by
    have := congrArg List.length fields_ctx
    simpa using this
  rw [hsz] at hlen
  have hc16 : Tryz.prog.cellsOf 27 = 16 := by kernel_rfl
  have hc8 : Tryz.prog.cellsOf 29 = 8 := by kernel_rfl
  have hc1 : Tryz.prog.cellsOf 5 = 1 := by kernel_rfl
  have hci : Tryz.prog.cellsOf 3 = 1 := by kernel_rfl
  have hfs' : ∀ (j : Nat) (f : Field), (Tryz.prog.fieldsOf 31)[j]? = some f → ys[j]? = DataW.trod enc Tryz.prog W 0 (fun _ => true) true n f.type (((Value.agg cs).cells.toList.drop f.offset).take (Tryz.prog.cellsOf f.type)) := fun j f hj => (hfs j f hj).symm
  obtain ⟨y0, h0⟩ := field_trod (i := 0) (ty := 27) (off := 0) (sz := 16) hfs' (by omega) (by rw [fields_ctx]; rfl) hc16
  obtain ⟨y1, h1⟩ := field_trod (i := 1) (ty := 29) (off := 16) (sz := 8) hfs' (by omega) (by rw [fields_ctx]; rfl) hc8
  obtain ⟨y2, h2⟩ := field_trod (i := 2) (ty := 29) (off := 24) (sz := 8) hfs' (by omega) (by rw [fields_ctx]; rfl) hc8
  obtain ⟨y3, h3⟩ := field_trod (i := 3) (ty := 3) (off := 32) (sz := 1) hfs' (by omega) (by rw [fields_ctx]; rfl) hci
  have hsp := split4 (Value.agg cs).cells.toList 16 8 8 1 hlen
  obtain ⟨t, ht, e0⟩ := bytes_of_trodN Tryz.underlying27 Tryz.underlying5 hc1 hc16 h0
  obtain ⟨s, hs', e1⟩ := bytes_of_trodN Tryz.underlying29 Tryz.underlying5 hc1 hc8 h1
  obtain ⟨q, hq, e2⟩ := bytes_of_trodN Tryz.underlying29 Tryz.underlying5 hc1 hc8 h2
  obtain ⟨z3, e3, _, w3⟩ := DataW.trod_int Tryz.underlying3 h3
  rw [e0, e1, e2, e3] at hsp
  have hb : -9223372036854775808 ≤ z3 ∧ z3 ≤ 9223372036854775807 := by simpa [Lit.wf, IntKind.min, IntKind.max, IntKind.signed, IntKind.bits] using w3
  refine ⟨(t, s, q, z3), ⟨?_, ht, hs', hq, hb.1, hb.2⟩, trivial⟩
  unfold Cv
  congr 1
  exact Array.ext' (by rw [show cs.toList = _ from hsp]; simp [cc])
end Go.Proofs.YtgfdmdikiickpaaGreatDoor
