/-
  Walks of package b3: split, parts.
-/
import Derived.Test.YtgfdmdikiickpaaDoorBthreeB
import Derived.Test.YtgfdmdikiickpaaDoorStrs
namespace Go.Proofs.YtgfdmdikiickpaaDoor
open Go.RowKit

theorem conc_one : Tryd.prog.concrete 66 = true := by kernel_rfl
theorem conc_many : Tryd.prog.concrete 70 = true := by kernel_rfl
theorem conv_dec : True := trivial
set_option maxRecDepth 100000 in
set_option maxHeartbeats 1000000 in
theorem bsplit_one (s : List UInt8) (w : World) (hs : s.length < 4294967281) (h1 : (cutB 45 s).length = 1) :
    Calls Tryd.prog 35 #[Sv s] w fun e w' => e = .returned (.iface 66 (Sv s)) ∧ Below w.heap.size w w' := by
  have hc1 := conc_one
  have hc2 := conc_many
  have HN := hid h1
  clear h1
  go_enter Tryd.func35, Tryd.ntmps35
  go_wp2_with fail
  refine (ssplit_any s 45 _ hs).mono ?_; rintro e w1 ⟨rfl, hw⟩
  rw [HN.out]
  have HB := hid (show Below w.heap.size w w1 by rw [hw]; exact ext_alloc _ _)
  clear hw
  go_wp2_with fail
  go_ret
  exact ⟨rfl, HB.out⟩
set_option maxRecDepth 100000 in
set_option maxHeartbeats 1000000 in
theorem bsplit_many (s : List UInt8) (w : World) (hs : s.length < 4294967281) (h1 : (cutB 45 s).length ≠ 1) :
    Calls Tryd.prog 35 #[Sv s] w fun e w' => e = .returned (.iface 70 (.slice (some ⟨w.heap.size, 0, none⟩) (cutB 45 s).length (cutB 45 s).length)) ∧ w' = w.alloc (.cells ((cutB 45 s).map Sv).toArray 9) := by
  have hc1 := conc_one
  have hc2 := conc_many
  generalize hn : (cutB 45 s).length = n at h1 ⊢
  have HN := hid hn
  clear hn
  have hn1 : ((n : Int) == 1) = false := by rw [beq_eq_false_iff_ne]; omega
  go_enter Tryd.func35, Tryd.ntmps35
  go_wp2_with fail
  refine (ssplit_any s 45 _ hs).mono ?_; rintro e w1 ⟨rfl, hw⟩
  rw [HN.out]
  have HW := hid hw
  clear hw
  go_wp2_with fail
  go_ret
  exact ⟨rfl, HW.out⟩
set_option maxRecDepth 100000 in
theorem parts_one (s : List UInt8) (w : World) : Calls Tryd.prog 139 #[Sv s] w fun e w' => e = .returned (.int .i64 1) ∧ w' = w := by
  go_enter Tryd.func139, Tryd.ntmps139
  go_wp2_with fail
  go_ret
  exact ⟨rfl, rfl⟩
set_option maxRecDepth 100000 in
theorem parts_many (A : Option Addr) (n c : Nat) (w : World) : Calls Tryd.prog 140 #[.slice A n c] w fun e w' => e = .returned (.int .i64 n) ∧ w' = w := by
  go_enter Tryd.func140, Tryd.ntmps140
  go_wp2_with fail
  go_ret
  exact ⟨rfl, rfl⟩
/-- The strings that lie in a slice. -/
def Lie (w : World) (g : Nat) (L : List (List UInt8)) : Prop := Blk w g 9 (L.map Sv).toArray
theorem Lie.at_ {w : World} {g : Nat} {L : List (List UInt8)} (h : Lie w g L) {k : Nat} {s : List UInt8} (hk : L[k]? = some s) : w.cell? ⟨g, k, none⟩ = some (Sv s) := by
  rw [Blk.cell h k]
  simp [hk]
end Go.Proofs.YtgfdmdikiickpaaDoor
