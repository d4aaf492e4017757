/-
  Walk of package chead: whether two kinds are the same.
-/
import Derived.Test.YtdjbgojdkaipfaaHead
namespace Go.Proofs.Ytdjbgojdkaipfaa
open Go.RowKit

def sameB (a b : Int) : Bool := (a == b) || ((a == 1 || a == 2) && (b == 1 || b == 2))
set_option maxRecDepth 100000 in
set_option maxHeartbeats 4000000 in
theorem same_any (a b : Int) (w : World) :
    Calls Try.prog 67 #[.int .u8 a, .int .u8 b] w fun e w' => e = .returned (.bool (sameB a b)) ∧ w = w' := by
  cases h1 : (a == 1) <;> cases h2 : (a == 2) <;> cases h3 : (b == 1) <;> cases h4 : (b == 2) <;> cases h5 : (a == b)
  all_goals
    have hk := hid (show sameB a b = _ from by simp only [sameB, h1, h2, h3, h4, h5]; rfl)
    go_enter Try.func67, Try.ntmps67
    go_wp2
    go_ret
    exact ⟨by rw [hk.out]; rfl, rfl⟩
end Go.Proofs.Ytdjbgojdkaipfaa
