/-
  Texts for the laws of this seat, merged: Open, OpenArr, OpenName, OpenHdr.
-/
import Derived.Test.YtgfdmdikiickpaaDoorRows
import Derived.WalkKit
import Derived.ProofKit
import Derived.OpenShut
import Derived.ShutString
import Derived.ChangeOld
import Derived.Below
import Derived.JoinedCond
import Derived.SizedLaws
import Derived.Deep.DeepHandedRow
import Derived.Lib.LaidTab
import Derived.Test.YtgfdmdikiickpaaDoorMA
import Derived.Test.YtgfdmdikiickpaaDoorMC
/-! Open -/
namespace Go.Proofs.YtgfdmdikiickpaaDoor
open Go.ChangeShapes Go.WideShapes Go.ChangeAt Go.RowKit

theorem bulk_part {H : Type} {d : DataW H} {l : List (DataW H)} (j : Nat) (h : l[j]? = some d) : Rows.uptoBulk d ≤ Rows.uptoBulkAll l := by
  induction l generalizing j with
  | nil => simp at h
  | cons x r ih =>
    simp only [Rows.uptoBulkAll]
    cases j with
    | zero => simp at h; subst h; omega
    | succ j => simp at h; have := ih j h; omega
theorem bulk_string {H : Type} {l : List (DataW H)} (hb : Rows.uptoBulkAll l ≤ 1048576) (j : Nat) (s : List UInt8) (h : l[j]? = some (.lit (.string s))) : s.length ≤ 1048576 := by
  have := bulk_part j h
  simp only [Rows.uptoBulk] at this
  omega
theorem bulk_one {H : Type} (d : DataW H) : 1 ≤ Rows.uptoBulk d := by
  cases d with
  | lit l => cases l <;> simp [Rows.uptoBulk]
  | nil => simp [Rows.uptoBulk]
  | ptr d => simp [Rows.uptoBulk]
  | slice elems spare => simp [Rows.uptoBulk]
  | agg parts => simp [Rows.uptoBulk]
  | iface t d => simp [Rows.uptoBulk]
  | map entries => simp [Rows.uptoBulk]
  | held h => simp [Rows.uptoBulk]
theorem bulk_len {H : Type} (l : List (DataW H)) : l.length ≤ Rows.uptoBulkAll l := by
  induction l with
  | nil => simp [Rows.uptoBulkAll]
  | cons x r ih => have := bulk_one x; simp only [Rows.uptoBulkAll, List.length_cons]; omega

theorem bt_wf {n : Int} (h : (Lit.int .u8 n).wf = true) : b8 (bt n) = .int .u8 n := by
  have hx : 0 ≤ n ∧ n ≤ 255 := by simpa [Lit.wf, IntKind.min, IntKind.max, IntKind.signed, IntKind.bits] using h
  exact b8_bt n hx.1 hx.2
set_option maxRecDepth 100000 in
/-- A slice of bytes that came in: the bytes that it holds. -/
theorem open_bytes {H : Type} {enc : TypeId × Value → H} {W : World} {base : Nat} {v : Value} {d : DataW H} {p : List MemPlace}
    (hv : Value.okWide Tryd.prog W .any base 112 v) (h : DataW.Trod enc Tryd.prog W 0 (fun _ => true) true 112 v d p) :
    ∃ l : List UInt8, Bs W W.heap.size v l ∧ ((l = [] ∧ d = .nil) ∨ ∃ elems spare : List (DataW H), d = .slice elems spare ∧ elems.length = l.length) := by
  obtain ⟨a, len, cap, rfl⟩ := okWide_slice Tryd.underlying112 hv
  obtain ⟨fuel, hf⟩ := h
  rcases open_ints Tryd.underlying112 Tryd.underlying5 (by kernel_rfl) hf with ⟨hcs, hx⟩ | ⟨x, len', cap', zs, hcs, _, hl, hm, hz, hx, hcell, hwz⟩
  · simp [Value.cells] at hcs
    obtain ⟨rfl, rfl, rfl⟩ := hcs
    simp only [Prod.mk.injEq] at hx
    exact ⟨[], ⟨none, 0, rfl, Nat.le_refl _, Reads.none_⟩, .inl ⟨rfl, hx.1⟩⟩
  · simp [Value.cells] at hcs
    obtain ⟨rfl, rfl, rfl⟩ := hcs
    simp only [Prod.mk.injEq] at hx
    have hz' : zs.length = cap := by simpa using hz
    have hlen : ((zs.take len).map bt).length = len := by simp; omega
    refine ⟨(zs.take len).map bt, ⟨some x, cap, by rw [hlen], by rw [hlen]; exact hl, ?_⟩, .inr ⟨_, _, hx.1, by simp [lits]⟩⟩
    rw [hlen]
    refine ⟨by simp; omega, fun hn => ?_⟩
    have hblk : x.block < W.heap.size := by
      have := World.block_lt_of_cell? W _ (hcell 0 (by omega))
      rwa [block_of_add] at this
    refine ⟨x, rfl, hblk, fun j u hu => ?_⟩
    have hj : j < len := by
      rcases Nat.lt_or_ge j len with h | h
      · exact h
      · rw [List.getElem?_eq_none (by simp; omega)] at hu; cases hu
    have hjz : j < zs.length := by omega
    have e : (b8s ((zs.take len).map bt))[j]? = some (b8 (bt zs[j])) := by
      simp [b8s, hj, hjz]
    rw [e] at hu
    injection hu with hu
    rw [hcell j (by omega), ← hu, bt_wf (hwz _ (List.getElem_mem hjz))]
    simp [List.getD, hjz]
theorem bulk_uint8 {H : Type} {l : List (DataW H)} (hb : Rows.uptoBulkAll l ≤ 1048576) (j : Nat) {d : DataW H} {n : List UInt8}
    (hd : (n = [] ∧ d = .nil) ∨ ∃ elems spare : List (DataW H), d = .slice elems spare ∧ elems.length = n.length) (h : l[j]? = some d) : n.length ≤ 1048576 := by
  rcases hd with ⟨rfl, _⟩ | ⟨elems, spare, rfl, e⟩
  · simp
  · have h1 := bulk_part j h
    simp only [Rows.uptoBulk] at h1
    have h2 := bulk_len elems
    omega
end Go.Proofs.YtgfdmdikiickpaaDoor

/-! OpenArr -/
namespace Go.Proofs.YtgfdmdikiickpaaDoor
open Go.ChangeShapes Go.WideShapes Go.ChangeAt Go.RowKit

theorem mapM_each {α β : Type} {f : α → Option β} : ∀ {l : List α} {ys : List β}, l.mapM f = some ys → ∀ a ∈ l, ∃ y, f a = some y
  | [], _, _ => fun a h => absurd h (by simp)
  | b :: l, ys, h => by
    rw [List.mapM_cons] at h
    intro a ha
    cases hb : f b with
    | none => rw [hb] at h; cases h
    | some y =>
      rw [hb] at h
      cases hl : l.mapM f with
      | none => rw [hl] at h; cases h
      | some zs =>
        rcases List.mem_cons.1 ha with rfl | ha
        · exact ⟨y, hb⟩
        · exact mapM_each hl a ha
theorem trod_array_each {H : Type} {enc : TypeId × Value → H} {P : Program} {w : World} {base : Nat} {spare : Nat → Bool} {held : Bool} {fuel n : Nat} {t e : TypeId} {cs : List Value} {x : DataW H × List MemPlace}
    (ht : P.underlying t = some (.array n e)) (h : DataW.trod enc P w base spare held fuel t cs = some x) :
    ∃ m, cs.length = P.cellsOf t ∧ ∀ i, i < n → ∃ y, DataW.trod enc P w base spare held m e ((cs.drop (i * P.cellsOf e)).take (P.cellsOf e)) = some y := by
  cases fuel with
  | zero => simp [DataW.trod] at h
  | succ m =>
    unfold DataW.trod at h
    rw [ht] at h
    simp only [] at h
    split at h
    · rename_i hl
      refine ⟨m, hl, fun i hi => ?_⟩
      cases hm : (List.range n).mapM (fun i => DataW.trod enc P w base spare held m e ((cs.drop (i * P.cellsOf e)).take (P.cellsOf e))) with
      | none => rw [hm] at h; cases h
      | some xs => exact mapM_each hm i (by simpa using hi)
    · cases h
theorem okWide_array {P : Program} {w : World} {r : Reach} {base n : Nat} {t e : TypeId} {v : Value} (ht : P.underlying t = some (.array n e)) (h : Value.okWide P w r base t v) : ∃ cs, v = .agg cs ∧ cs.size = P.cellsOf t := by
  unfold Value.okWide at h
  rw [ht] at h
  obtain ⟨cs, rfl, hs, _⟩ := h
  exact ⟨cs, rfl, hs⟩
theorem open_arr {H : Type} {enc : TypeId × Value → H} {P : Program} {W : World} {base n : Nat} {t e : TypeId} {k : IntKind} {v : Value} {d : DataW H} {p : List MemPlace}
    (ht : P.underlying t = some (.array n e)) (he : P.underlying e = some (.int k)) (hce : P.cellsOf e = 1) (hct : P.cellsOf t = n)
    (hv : Value.okWide P W .any base t v) (h : DataW.Trod enc P W 0 (fun _ => true) true t v d p) :
    ∃ l : List Int, l.length = n ∧ v = .agg (l.map (Value.int k)).toArray ∧ ∀ x ∈ l, (Lit.int k x).wf = true := by
  obtain ⟨cs, rfl, hsz⟩ := okWide_array ht hv
  obtain ⟨fuel, hf⟩ := h
  obtain ⟨m, hl, hi⟩ := trod_array_each ht hf
  have hcs : (Value.agg cs).cells.toList = cs.toList := rfl
  rw [hcs] at hi
  have hall : ∀ i, i < n → ∃ z : Int, cs.toList[i]? = some (.int k z) ∧ (Lit.int k z).wf = true := by
    intro i hin
    obtain ⟨y, hy⟩ := hi i hin
    rw [hce, Nat.mul_one] at hy
    have hlt : i < cs.toList.length := by rw [Array.length_toList]; omega
    rw [List.drop_eq_getElem_cons hlt, List.take_succ_cons, List.take_zero] at hy
    obtain ⟨z, e1, _, wz⟩ := DataW.trod_int he hy
    refine ⟨z, ?_, wz⟩
    rw [List.getElem?_eq_getElem hlt]
    simpa using e1
  refine ⟨(List.range n).map (fun i => if hi : i < n then Classical.choose (hall i hi) else 0), by simp, ?_, ?_⟩
  · congr 1
    apply Array.ext'
    apply List.ext_getElem?
    intro i
    by_cases hin : i < n
    · rw [(Classical.choose_spec (hall i hin)).1]
      simp [hin]
    · rw [List.getElem?_eq_none (by rw [Array.length_toList]; omega), List.getElem?_eq_none (by simpa using hin)]
  · intro x hx
    obtain ⟨i, hi', rfl⟩ := List.mem_map.1 hx
    have hin : i < n := by simpa using hi'
    simp only [dif_pos hin]
    exact (Classical.choose_spec (hall i hin)).2
theorem int_bd64 {z : Int} (h : (Lit.int .i64 z).wf = true) : -9223372036854775808 ≤ z ∧ z ≤ 9223372036854775807 := by
  simpa [Lit.wf, IntKind.min, IntKind.max, IntKind.signed, IntKind.bits] using h
theorem int_bd8 {z : Int} (h : (Lit.int .u8 z).wf = true) : 0 ≤ z ∧ z ≤ 255 := by
  simpa [Lit.wf, IntKind.min, IntKind.max, IntKind.signed, IntKind.bits] using h
end Go.Proofs.YtgfdmdikiickpaaDoor

/-! OpenName -/
namespace Go.Proofs.YtgfdmdikiickpaaDoor
open Go.ChangeShapes Go.WideShapes Go.RowKit Go.ChangeAt

theorem bytes_of_trodN {H : Type} {enc : TypeId × Value → H} {P : Program} {w : World} {base : Nat} {spare : Nat → Bool} {held : Bool} {fuel n : Nat} {t e : TypeId} {cs : List Value} {x : DataW H × List MemPlace}
    (ht : P.underlying t = some (.array n e)) (he : P.underlying e = some (.int .u8)) (hce : P.cellsOf e = 1) (hct : P.cellsOf t = n) (h : DataW.trod enc P w base spare held fuel t cs = some x) :
    ∃ l : List UInt8, l.length = n ∧ cs = b8s l := by
  obtain ⟨m, hl, hi⟩ := trod_array_each ht h
  rw [hct] at hl
  have hall : ∀ i, i < n → ∃ z : Int, cs[i]? = some (.int .u8 z) ∧ 0 ≤ z ∧ z ≤ 255 := by
    intro i hin
    obtain ⟨y, hy⟩ := hi i hin
    rw [hce, Nat.mul_one] at hy
    have hlt : i < cs.length := by omega
    rw [List.drop_eq_getElem_cons hlt, List.take_succ_cons, List.take_zero] at hy
    obtain ⟨z, e1, _, wz⟩ := DataW.trod_int he hy
    refine ⟨z, ?_, int_bd8 wz⟩
    rw [List.getElem?_eq_getElem hlt]
    simpa using e1
  refine ⟨(List.range n).map (fun i => if hi : i < n then bt (Classical.choose (hall i hi)) else 0), by simp, ?_⟩
  apply List.ext_getElem?
  intro i
  by_cases hin : i < n
  · obtain ⟨h1, h2, h3⟩ := Classical.choose_spec (hall i hin)
    rw [h1]
    simp only [b8s, List.getElem?_map, List.getElem?_range hin, Option.map_some, dif_pos hin]
    rw [b8_bt _ h2 h3]
  · rw [List.getElem?_eq_none (by omega), List.getElem?_eq_none (by simpa using hin)]
set_option maxRecDepth 100000 in
theorem open_name {H : Type} {enc : TypeId × Value → H} {W : World} {base n : Nat} {t : TypeId} {v : Value} {d : DataW H} {p : List MemPlace} (ht : Tryd.prog.underlying t = some (.array n 5)) (hct : Tryd.prog.cellsOf t = n)
    (hv : Value.okWide Tryd.prog W .any base t v) (h : DataW.Trod enc Tryd.prog W 0 (fun _ => true) true t v d p) : ∃ l : List UInt8, (v = Av l ∧ l.length = n) ∧ True := by
  obtain ⟨cs, rfl, _⟩ := okWide_array ht hv
  obtain ⟨fuel, hf⟩ := h
  obtain ⟨l, hl, e⟩ := bytes_of_trodN ht Tryd.underlying5 (by kernel_rfl) hct hf
  refine ⟨l, ⟨?_, hl⟩, trivial⟩
  unfold Av
  congr 1
  exact Array.ext' (by rw [show cs.toList = b8s l from e])
set_option maxRecDepth 100000 in
theorem open_apiTraceID {H : Type} {enc : TypeId × Value → H} {W : World} {base : Nat} {v : Value} {d : DataW H} {p : List MemPlace}
    (hv : Value.okWide Tryd.prog W .any base 25 v) (h : DataW.Trod enc Tryd.prog W 0 (fun _ => true) true 25 v d p) : ∃ l : List UInt8, (v = Av l ∧ l.length = 16) ∧ True :=
  open_name Tryd.underlying25 (by kernel_rfl) hv h
set_option maxRecDepth 100000 in
theorem open_apiSpanID {H : Type} {enc : TypeId × Value → H} {W : World} {base : Nat} {v : Value} {d : DataW H} {p : List MemPlace}
    (hv : Value.okWide Tryd.prog W .any base 27 v) (h : DataW.Trod enc Tryd.prog W 0 (fun _ => true) true 27 v d p) : ∃ l : List UInt8, (v = Av l ∧ l.length = 8) ∧ True :=
  open_name Tryd.underlying27 (by kernel_rfl) hv h
end Go.Proofs.YtgfdmdikiickpaaDoor

/-! OpenHdr -/
namespace Go.Proofs.YtgfdmdikiickpaaDoor
open Go.ChangeShapes Go.WideShapes Go.RowKit Go.ChangeAt

theorem split4 (cs : List Value) (a b c d : Nat) (h : cs.length = a + b + c + d) : cs = (cs.drop 0).take a ++ (cs.drop a).take b ++ (cs.drop (a + b)).take c ++ (cs.drop (a + b + c)).take d := by
  rw [List.drop_zero, ← List.take_add, ← List.take_add, ← List.take_add, List.take_of_length_le (by omega)]
theorem field_trod {H : Type} {enc : TypeId × Value → H} {w : World} {base : Nat} {spare : Nat → Bool} {held : Bool} {n i T ty off sz : Nat} {cs : List Value} {ys : List (DataW H × List MemPlace)}
    (hf : ∀ (j : Nat) (f : Field), (Tryd.prog.fieldsOf T)[j]? = some f → ys[j]? = DataW.trod enc Tryd.prog w base spare held n f.type ((cs.drop f.offset).take (Tryd.prog.cellsOf f.type)))
    (hl : i < ys.length) (hi : ((Tryd.prog.fieldsOf T).toList.map (fun f => (f.name == "_", f.type, f.offset)))[i]? = some (false, ty, off)) (hc : Tryd.prog.cellsOf ty = sz) :
    ∃ y, DataW.trod enc Tryd.prog w base spare held n ty ((cs.drop off).take sz) = some y := by
  obtain ⟨f, e, t0, o0⟩ := field_at hi
  have h := hf i f e
  rw [t0, o0, hc, List.getElem?_eq_getElem hl] at h
  exact ⟨_, h.symm⟩
set_option maxRecDepth 100000 in
theorem open_apiContext {H : Type} {enc : TypeId × Value → H} {W : World} {base : Nat} {v : Value} {d : DataW H} {p : List MemPlace}
    (hv : Value.okWide Tryd.prog W .any base 29 v) (h : DataW.Trod enc Tryd.prog W 0 (fun _ => true) true 29 v d p) :
    ∃ r : List UInt8 × List UInt8 × List UInt8 × Int, (v = Cv r.1 r.2.1 r.2.2.1 r.2.2.2 ∧ r.1.length = 16 ∧ r.2.1.length = 8 ∧ r.2.2.1.length = 8 ∧ -9223372036854775808 ≤ r.2.2.2 ∧ r.2.2.2 ≤ 9223372036854775807) ∧ True := by
  obtain ⟨cs, rfl, _⟩ := WideShapes.okWide_struct und_ctx hv
  obtain ⟨fuel, hf⟩ := h
  obtain ⟨ys, n, _, _, hlen, hyl, hfs⟩ := DataW.trod_struct und_ctx hf
  have hsz : Tryd.prog.cellsOf 29 = 33 := by kernel_rfl
  have hs : (Tryd.prog.fieldsOf 29).size = 4 := by
    have := congrArg List.length fields_ctx
    simpa using this
  rw [hsz] at hlen
  have hc16 : Tryd.prog.cellsOf 25 = 16 := by kernel_rfl
  have hc8 : Tryd.prog.cellsOf 27 = 8 := by kernel_rfl
  have hc1 : Tryd.prog.cellsOf 5 = 1 := by kernel_rfl
  have hci : Tryd.prog.cellsOf 3 = 1 := by kernel_rfl
  have hfs' : ∀ (j : Nat) (f : Field), (Tryd.prog.fieldsOf 29)[j]? = some f → ys[j]? = DataW.trod enc Tryd.prog W 0 (fun _ => true) true n f.type (((Value.agg cs).cells.toList.drop f.offset).take (Tryd.prog.cellsOf f.type)) := fun j f hj => (hfs j f hj).symm
  obtain ⟨y0, h0⟩ := field_trod (i := 0) (ty := 25) (off := 0) (sz := 16) hfs' (by omega) (by rw [fields_ctx]; rfl) hc16
  obtain ⟨y1, h1⟩ := field_trod (i := 1) (ty := 27) (off := 16) (sz := 8) hfs' (by omega) (by rw [fields_ctx]; rfl) hc8
  obtain ⟨y2, h2⟩ := field_trod (i := 2) (ty := 27) (off := 24) (sz := 8) hfs' (by omega) (by rw [fields_ctx]; rfl) hc8
  obtain ⟨y3, h3⟩ := field_trod (i := 3) (ty := 3) (off := 32) (sz := 1) hfs' (by omega) (by rw [fields_ctx]; rfl) hci
  have hsp := split4 (Value.agg cs).cells.toList 16 8 8 1 hlen
  obtain ⟨t, ht, e0⟩ := bytes_of_trodN Tryd.underlying25 Tryd.underlying5 hc1 hc16 h0
  obtain ⟨s, hs', e1⟩ := bytes_of_trodN Tryd.underlying27 Tryd.underlying5 hc1 hc8 h1
  obtain ⟨q, hq, e2⟩ := bytes_of_trodN Tryd.underlying27 Tryd.underlying5 hc1 hc8 h2
  obtain ⟨z3, e3, _, w3⟩ := DataW.trod_int Tryd.underlying3 h3
  rw [e0, e1, e2, e3] at hsp
  have hb : -9223372036854775808 ≤ z3 ∧ z3 ≤ 9223372036854775807 := by simpa [Lit.wf, IntKind.min, IntKind.max, IntKind.signed, IntKind.bits] using w3
  refine ⟨(t, s, q, z3), ⟨?_, ht, hs', hq, hb.1, hb.2⟩, trivial⟩
  unfold Cv
  congr 1
  exact Array.ext' (by rw [show cs.toList = _ from hsp]; simp [cc])
end Go.Proofs.YtgfdmdikiickpaaDoor
