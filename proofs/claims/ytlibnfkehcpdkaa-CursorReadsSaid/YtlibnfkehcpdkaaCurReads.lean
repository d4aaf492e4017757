/-
  The law CursorReads: its walk.
-/
import Derived.Test.YtlibnfkehcpdkaaCurLaw
import Derived.Deep.RegionHeld3
namespace Go.Proofs.Ytlibnfkehcpdkaa
open Go.RowKit

set_option maxRecDepth 100000 in
set_option maxHeartbeats 4000000 in
theorem stands_any (b : Nat) (c : Cu) (w : World) (hc : CurAt w b c) (hf : c.fit) :
    Calls Try.prog 27 #[ptr b, agg c] w fun e w' => e = .returned (.bool true) ∧ Below w.heap.size w w' := by
  obtain ⟨s, pos, en, code⟩ := c
  have hlt := hc.lt
  obtain ⟨l1, l2, l3⟩ := hf
  have ff : Cu.fit ⟨s, pos, en, code⟩ := ⟨l1, l2, l3⟩
  simp only at l1 l2 l3
  have HC : Hid (∀ u : World, Below (w.alloc (.cells #[Sv s, .int .i64 pos, .int .i64 en, .int .i64 code] 42)).heap.size (w.alloc (.cells #[Sv s, .int .i64 pos, .int .i64 en, .int .i64 code] 42)) u → CurAt u b ⟨s, pos, en, code⟩) := fun u hu => CurAt.ext (hc.alloc _) hu
  have HK : Hid (∀ u : World, Below (w.alloc (.cells #[Sv s, .int .i64 pos, .int .i64 en, .int .i64 code] 42)).heap.size (w.alloc (.cells #[Sv s, .int .i64 pos, .int .i64 en, .int .i64 code] 42)) u →
      (u.cell? ⟨w.heap.size, 0, none⟩ = some (Sv s) ∧ u.cell? ⟨w.heap.size, 1, none⟩ = some (.int .i64 pos) ∧ u.cell? ⟨w.heap.size, 2, none⟩ = some (.int .i64 en) ∧ u.cell? ⟨w.heap.size, 3, none⟩ = some (.int .i64 code) ∧
       Below (w.alloc (.cells #[Sv s, .int .i64 pos, .int .i64 en, .int .i64 code] 42)).heap.size (w.alloc (.cells #[Sv s, .int .i64 pos, .int .i64 en, .int .i64 code] 42)) u)) := fun u hu => by
    obtain ⟨hA, _⟩ := box1 hu
    obtain ⟨p0, p1, p2, p3, _⟩ := blk4 hA
    exact ⟨p0, p1, p2, p3, hu⟩
  clear hc
  have hB0 := Below.refl (w.alloc (.cells #[Sv s, .int .i64 pos, .int .i64 en, .int .i64 code] 42)).heap.size (w.alloc (.cells #[Sv s, .int .i64 pos, .int .i64 en, .int .i64 code] 42))
  unfold agg
  simp only
  have HB0 := hid hB0
  clear hB0
  by_cases hcode : code = 0
  · subst hcode
    by_cases hp : pos < en
    · skip
      have e1 := hid (show Cu.peek ⟨s, pos, en, 0⟩ = byteAt s pos by simp [Cu.peek, hp])
      have e2 := hid (show Cu.peeks ⟨s, pos, en, 0⟩ = true by simp [Cu.peeks, hp])
      go_enter Try.func27, Try.ntmps27
      go_wp2_with (go_at_call 34; refine (peek_any b _ _ (HC.out _ HB0.out) ff).mono ?_; rintro e w1 ⟨rfl, n1, rfl⟩; rw [e1.out, e2.out]; have HB1 := hid (below_drewN HB0.out n1))
      have hwr : IntKind.i64.wrap ((en : Int) - (pos : Int)) = (en : Int) - (pos : Int) := IntWalk.i64_in _ (by omega)
      go_region_held3 (fun u => u.cell? ⟨w.heap.size, 0, none⟩ = some (Sv s) ∧ u.cell? ⟨w.heap.size, 1, none⟩ = some (.int .i64 pos) ∧ u.cell? ⟨w.heap.size, 2, none⟩ = some (.int .i64 en) ∧ u.cell? ⟨w.heap.size, 3, none⟩ = some (.int .i64 0) ∧ Below (w.alloc (.cells #[Sv s, .int .i64 pos, .int .i64 en, .int .i64 0] 42)).heap.size (w.alloc (.cells #[Sv s, .int .i64 pos, .int .i64 en, .int .i64 0] 42)) u)
        ((go_split_ands; refine HK.out _ ?_; first | assumption | exact below_drewN (by assumption) _ | exact (below_drewN HB0.out _) | exact HB0.out | exact Below.trans (by assumption) (Below.mono hb' (Below.size (by assumption)))))
        (first
          | (go_at_call 35; go_split_ands; refine (at_any b ⟨s, pos, en, 0⟩ _ (HC.out _ (by assumption))).mono ?_; rintro e w' ⟨rfl, rfl⟩)
          | (go_at_call 22; go_split_ands; refine (left_any b ⟨s, pos, en, 0⟩ _ (HC.out _ (by assumption)) ff).mono ?_; rintro e w' ⟨rfl, m1, rfl⟩)
          | (go_at_call 36; go_split_ands; refine (err_any b ⟨s, pos, en, 0⟩ _ (HC.out _ (by assumption))).mono ?_; rintro e w' ⟨rfl, rfl⟩)
          | (go_at_call 25; go_split_ands; refine (end_any b ⟨s, pos, en, 0⟩ _ (HC.out _ (by assumption)) ff).mono ?_; rintro e w' ⟨rfl, m2, rfl⟩)
          | (go_at_call 49; refine (rend_any ⟨s, pos, en, 0⟩ _).mono ?_; rintro e w' ⟨rfl, hb'⟩))
      go_split_ands
      have hfin : Below w.heap.size w w' := ext_trans (ext_alloc w _) (by assumption)
      have HF := hid hfin
      clear hfin
      go_wp2
      go_ret
      exact ⟨rfl, HF.out⟩
    · skip
      have e1 := hid (show Cu.peek ⟨s, pos, en, 0⟩ = 0 by simp [Cu.peek, hp])
      have e2 := hid (show Cu.peeks ⟨s, pos, en, 0⟩ = false by simp [Cu.peeks, hp])
      go_enter Try.func27, Try.ntmps27
      go_wp2_with (go_at_call 34; refine (peek_any b _ _ (HC.out _ HB0.out) ff).mono ?_; rintro e w1 ⟨rfl, n1, rfl⟩; rw [e1.out, e2.out]; have HB1 := hid (below_drewN HB0.out n1))
      have hwr : IntKind.i64.wrap ((en : Int) - (pos : Int)) = (en : Int) - (pos : Int) := IntWalk.i64_in _ (by omega)
      go_region_held3 (fun u => u.cell? ⟨w.heap.size, 0, none⟩ = some (Sv s) ∧ u.cell? ⟨w.heap.size, 1, none⟩ = some (.int .i64 pos) ∧ u.cell? ⟨w.heap.size, 2, none⟩ = some (.int .i64 en) ∧ u.cell? ⟨w.heap.size, 3, none⟩ = some (.int .i64 0) ∧ Below (w.alloc (.cells #[Sv s, .int .i64 pos, .int .i64 en, .int .i64 0] 42)).heap.size (w.alloc (.cells #[Sv s, .int .i64 pos, .int .i64 en, .int .i64 0] 42)) u)
        ((go_split_ands; refine HK.out _ ?_; first | assumption | exact below_drewN (by assumption) _ | exact (below_drewN HB0.out _) | exact HB0.out | exact Below.trans (by assumption) (Below.mono hb' (Below.size (by assumption)))))
        (first
          | (go_at_call 35; go_split_ands; refine (at_any b ⟨s, pos, en, 0⟩ _ (HC.out _ (by assumption))).mono ?_; rintro e w' ⟨rfl, rfl⟩)
          | (go_at_call 22; go_split_ands; refine (left_any b ⟨s, pos, en, 0⟩ _ (HC.out _ (by assumption)) ff).mono ?_; rintro e w' ⟨rfl, m1, rfl⟩)
          | (go_at_call 36; go_split_ands; refine (err_any b ⟨s, pos, en, 0⟩ _ (HC.out _ (by assumption))).mono ?_; rintro e w' ⟨rfl, rfl⟩)
          | (go_at_call 25; go_split_ands; refine (end_any b ⟨s, pos, en, 0⟩ _ (HC.out _ (by assumption)) ff).mono ?_; rintro e w' ⟨rfl, m2, rfl⟩)
          | (go_at_call 49; refine (rend_any ⟨s, pos, en, 0⟩ _).mono ?_; rintro e w' ⟨rfl, hb'⟩))
      go_split_ands
      have hfin : Below w.heap.size w w' := ext_trans (ext_alloc w _) (by assumption)
      have HF := hid hfin
      clear hfin
      go_wp2
      go_ret
      exact ⟨rfl, HF.out⟩
  · have hb : (code == 0) = false := by simpa using hcode
    have e1 := hid (show Cu.peek ⟨s, pos, en, code⟩ = 0 by simp [Cu.peek, hcode])
    have e2 := hid (show Cu.peeks ⟨s, pos, en, code⟩ = false by simp [Cu.peeks, hcode])
    clear hcode
    go_enter Try.func27, Try.ntmps27
    go_wp2_with (go_at_call 34; refine (peek_any b _ _ (HC.out _ HB0.out) ff).mono ?_; rintro e w1 ⟨rfl, n1, rfl⟩; rw [e1.out, e2.out]; have HB1 := hid (below_drewN HB0.out n1))
    have hwr : IntKind.i64.wrap ((en : Int) - (pos : Int)) = (en : Int) - (pos : Int) := IntWalk.i64_in _ (by omega)
    go_region_held3 (fun u => u.cell? ⟨w.heap.size, 0, none⟩ = some (Sv s) ∧ u.cell? ⟨w.heap.size, 1, none⟩ = some (.int .i64 pos) ∧ u.cell? ⟨w.heap.size, 2, none⟩ = some (.int .i64 en) ∧ u.cell? ⟨w.heap.size, 3, none⟩ = some (.int .i64 code) ∧ Below (w.alloc (.cells #[Sv s, .int .i64 pos, .int .i64 en, .int .i64 code] 42)).heap.size (w.alloc (.cells #[Sv s, .int .i64 pos, .int .i64 en, .int .i64 code] 42)) u)
      ((go_split_ands; refine HK.out _ ?_; first | assumption | exact below_drewN (by assumption) _ | exact (below_drewN HB0.out _) | exact HB0.out | exact Below.trans (by assumption) (Below.mono hb' (Below.size (by assumption)))))
      (first
        | (go_at_call 35; go_split_ands; refine (at_any b ⟨s, pos, en, code⟩ _ (HC.out _ (by assumption))).mono ?_; rintro e w' ⟨rfl, rfl⟩)
        | (go_at_call 22; go_split_ands; refine (left_any b ⟨s, pos, en, code⟩ _ (HC.out _ (by assumption)) ff).mono ?_; rintro e w' ⟨rfl, m1, rfl⟩)
        | (go_at_call 36; go_split_ands; refine (err_any b ⟨s, pos, en, code⟩ _ (HC.out _ (by assumption))).mono ?_; rintro e w' ⟨rfl, rfl⟩)
        | (go_at_call 25; go_split_ands; refine (end_any b ⟨s, pos, en, code⟩ _ (HC.out _ (by assumption)) ff).mono ?_; rintro e w' ⟨rfl, m2, rfl⟩)
        | (go_at_call 49; refine (rend_any ⟨s, pos, en, code⟩ _).mono ?_; rintro e w' ⟨rfl, hb'⟩))
    go_split_ands
    have hfin : Below w.heap.size w w' := ext_trans (ext_alloc w _) (by assumption)
    have HF := hid hfin
    clear hfin
    go_wp2
    go_ret
    exact ⟨rfl, HF.out⟩
end Go.Proofs.Ytlibnfkehcpdkaa
