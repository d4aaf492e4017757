/-
  Walks of the reference of package cursor.
-/
import Derived.Test.YtgfdmdikiickpaaCurB
import Derived.Laws.ResultCell
namespace Go.Proofs.Ytgfdmdikiickpaa
open Go.RowKit

/-- A cursor of the document's, by value. -/
def agg (c : Cu) : Value := .agg #[Sv c.s, .int .i64 c.pos, .int .i64 c.en, .int .i64 c.code]

set_option maxRecDepth 100000 in
theorem rnew_any (s : List UInt8) (w : World) :
    Calls Try.prog 11 #[Sv s] w fun e w' => e = .returned (agg (Cu.start s)) ∧ Below w.heap.size w w' := by
  go_enter Try.func11, Try.ntmps11
  go_wp2
  exact bodyPost_ret (v := agg (Cu.start s)) (by simp [results, Try.results11, agg, Cu.start, go_sem]) rfl ⟨rfl, ext_alloc _ _⟩

theorem Cu.text_one {c : Cu} (h : c.fit) (hw : c.why 1 = 0) : c.text 1 = [UInt8.ofNat c.byte.toNat] ∧ byteAt (c.text 1) 0 = c.byte := by
  obtain ⟨_, _, h2⟩ := Cu.why_zero hw
  have l1 := h.le1
  have l2 := h.le2
  have hlt : c.pos < c.s.length := by omega
  have e : c.text 1 = [c.s[c.pos]] := by
    simp only [Cu.text, hw, if_true]
    rw [List.drop_eq_getElem_cons hlt]
    rfl
  have e2 : c.byte = (c.s[c.pos].toNat : Int) := by
    simp only [Cu.byte, hw, if_true]
    exact byteAt_get _ _ hlt
  rw [e, e2]
  simp [byteAt]
set_option maxRecDepth 100000 in
set_option maxHeartbeats 400000 in
theorem rfail_any (c : Cu) (n : Int) (w : World) :
    Calls Try.prog 27 #[agg c, .int .i64 n] w fun e w' => e = .returned (agg (c.fail n)) ∧ Below w.heap.size w w' := by
  have HBW := hid (Below.refl w.heap.size w)
  by_cases hc : c.code = 0
  · have HT := hid (show c.fail n = { c with code := n } by simp [Cu.fail, hc])
    have hb : (c.code == 0) = true := by simpa using hc
    clear hc
    unfold agg
    go_enter Try.func27, Try.ntmps27
    go_wp2
    rw [HT.out]
    exact bodyPost_ret (v := .agg #[Sv c.s, .int .i64 c.pos, .int .i64 c.en, .int .i64 n]) (by simp only [results, Try.results27]; go_simp) rfl ⟨rfl, by (repeat (first | (with_reducible refine Below.drew ?_) | (with_reducible refine Below.setCell ?_ (by simp <;> omega) _) | (with_reducible refine Below.alloc ?_ (by simp <;> omega) _))); exact HBW.out⟩
  · have HT := hid (show c.fail n = c by simp [Cu.fail, hc])
    have hb : (c.code == 0) = false := by simpa using hc
    clear hc
    unfold agg
    go_enter Try.func27, Try.ntmps27
    go_wp2
    rw [HT.out]
    exact bodyPost_ret (v := .agg #[Sv c.s, .int .i64 c.pos, .int .i64 c.en, .int .i64 c.code]) (by simp only [results, Try.results27]; go_simp) rfl ⟨rfl, by (repeat (first | (with_reducible refine Below.drew ?_) | (with_reducible refine Below.setCell ?_ (by simp <;> omega) _) | (with_reducible refine Below.alloc ?_ (by simp <;> omega) _))); exact HBW.out⟩

end Go.Proofs.Ytgfdmdikiickpaa
