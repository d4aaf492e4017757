/-
  Arguments, opened: what a law's parameters hold.
-/
import Derived.Test.YtgfdmdikiickpaaDoorBytes
import Derived.Test.YtgfdmdikiickpaaDoorRows
import Derived.WalkKit
import Derived.ProofKit
import Derived.OpenShut
import Derived.ShutString
import Derived.ChangeOld
import Derived.Below
import Derived.JoinedCond
import Derived.SizedLaws
import Derived.Deep.DeepHandedRow
import Derived.Lib.LaidTab
namespace Go.Proofs.YtgfdmdikiickpaaDoor
open Go.ChangeShapes Go.WideShapes Go.ChangeAt Go.RowKit

theorem bulk_part {H : Type} {d : DataW H} {l : List (DataW H)} (j : Nat) (h : l[j]? = some d) : Rows.uptoBulk d ≤ Rows.uptoBulkAll l := by
  induction l generalizing j with
  | nil => simp at h
  | cons x r ih =>
    simp only [Rows.uptoBulkAll]
    cases j with
    | zero => simp at h; subst h; omega
    | succ j => simp at h; have := ih j h; omega
theorem bulk_string {H : Type} {l : List (DataW H)} (hb : Rows.uptoBulkAll l ≤ 1048576) (j : Nat) (s : List UInt8) (h : l[j]? = some (.lit (.string s))) : s.length ≤ 1048576 := by
  have := bulk_part j h
  simp only [Rows.uptoBulk] at this
  omega
theorem bulk_one {H : Type} (d : DataW H) : 1 ≤ Rows.uptoBulk d := by
  cases d with
  | lit l => cases l <;> simp [Rows.uptoBulk]
  | nil => simp [Rows.uptoBulk]
  | ptr d => simp [Rows.uptoBulk]
  | slice elems spare => simp [Rows.uptoBulk]
  | agg parts => simp [Rows.uptoBulk]
  | iface t d => simp [Rows.uptoBulk]
  | map entries => simp [Rows.uptoBulk]
  | held h => simp [Rows.uptoBulk]
theorem bulk_len {H : Type} (l : List (DataW H)) : l.length ≤ Rows.uptoBulkAll l := by
  induction l with
  | nil => simp [Rows.uptoBulkAll]
  | cons x r ih => have := bulk_one x; simp only [Rows.uptoBulkAll, List.length_cons]; omega

theorem bt_wf {n : Int} (h : (Lit.int .u8 n).wf = true) : b8 (bt n) = .int .u8 n := by
  have hx : 0 ≤ n ∧ n ≤ 255 := by simpa [Lit.wf, IntKind.min, IntKind.max, IntKind.signed, IntKind.bits] using h
  exact b8_bt n hx.1 hx.2
set_option maxRecDepth 100000 in
/-- A slice of bytes that came in: the bytes that it holds. -/
theorem open_bytes {H : Type} {enc : TypeId × Value → H} {W : World} {base : Nat} {v : Value} {d : DataW H} {p : List MemPlace}
    (hv : Value.okWide Tryd.prog W .any base 112 v) (h : DataW.Trod enc Tryd.prog W 0 (fun _ => true) true 112 v d p) :
    ∃ l : List UInt8, Bs W W.heap.size v l ∧ ((l = [] ∧ d = .nil) ∨ ∃ elems spare : List (DataW H), d = .slice elems spare ∧ elems.length = l.length) := by
  obtain ⟨a, len, cap, rfl⟩ := okWide_slice Tryd.underlying112 hv
  obtain ⟨fuel, hf⟩ := h
  rcases open_ints Tryd.underlying112 Tryd.underlying5 (by kernel_rfl) hf with ⟨hcs, hx⟩ | ⟨x, len', cap', zs, hcs, _, hl, hm, hz, hx, hcell, hwz⟩
  · simp [Value.cells] at hcs
    obtain ⟨rfl, rfl, rfl⟩ := hcs
    simp only [Prod.mk.injEq] at hx
    exact ⟨[], ⟨none, 0, rfl, Nat.le_refl _, Reads.none_⟩, .inl ⟨rfl, hx.1⟩⟩
  · simp [Value.cells] at hcs
    obtain ⟨rfl, rfl, rfl⟩ := hcs
    simp only [Prod.mk.injEq] at hx
    have hz' : zs.length = cap := by simpa using hz
    have hlen : ((zs.take len).map bt).length = len := by simp; omega
    refine ⟨(zs.take len).map bt, ⟨some x, cap, by rw [hlen], by rw [hlen]; exact hl, ?_⟩, .inr ⟨_, _, hx.1, by simp [lits]⟩⟩
    rw [hlen]
    refine ⟨by simp; omega, fun hn => ?_⟩
    have hblk : x.block < W.heap.size := by
      have := World.block_lt_of_cell? W _ (hcell 0 (by omega))
      rwa [block_of_add] at this
    refine ⟨x, rfl, hblk, fun j u hu => ?_⟩
    have hj : j < len := by
      rcases Nat.lt_or_ge j len with h | h
      · exact h
      · rw [List.getElem?_eq_none (by simp; omega)] at hu; cases hu
    have hjz : j < zs.length := by omega
    have e : (b8s ((zs.take len).map bt))[j]? = some (b8 (bt zs[j])) := by
      simp [b8s, hj, hjz]
    rw [e] at hu
    injection hu with hu
    rw [hcell j (by omega), ← hu, bt_wf (hwz _ (List.getElem_mem hjz))]
    simp [List.getD, hjz]
theorem bulk_uint8 {H : Type} {l : List (DataW H)} (hb : Rows.uptoBulkAll l ≤ 1048576) (j : Nat) {d : DataW H} {n : List UInt8}
    (hd : (n = [] ∧ d = .nil) ∨ ∃ elems spare : List (DataW H), d = .slice elems spare ∧ elems.length = n.length) (h : l[j]? = some d) : n.length ≤ 1048576 := by
  rcases hd with ⟨rfl, _⟩ | ⟨elems, spare, rfl, e⟩
  · simp
  · have h1 := bulk_part j h
    simp only [Rows.uptoBulk] at h1
    have h2 := bulk_len elems
    omega
end Go.Proofs.YtgfdmdikiickpaaDoor
