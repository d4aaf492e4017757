/-
  Walks of package cursor: Sub, Peek, End, and no cursor at all.
-/
import Derived.Test.YtdjbgojdkaipfaaCur
namespace Go.Proofs.Ytdjbgojdkaipfaa
open Go.RowKit

set_option maxRecDepth 100000 in
set_option maxHeartbeats 400000 in
theorem end_any (b : Nat) (c : Cu) (w : World) (hc : CurAt w b c) (hf : c.fit) :
    Calls Try.prog 68 #[ptr b] w fun e w' => e = .returned (.int .i64 c.fin) ∧ ∃ n, w.drewN n = w' := by
  have l1 := hf.le1
  have l2 := hf.le2
  have l3 := hf.le3
  by_cases hcode : c.code = 0
  · by_cases hp : c.pos < c.en
    · have HF := hid (show c.fin = 2 by simp [Cu.fin, hcode, hp])
      go_enter Try.func68, Try.ntmps68
      go_wp2_with (first
        | (go_at_call 57; refine (err_any b c _ hc).mono ?_; rintro e w' ⟨rfl, rfl⟩)
        | (go_at_call 75; refine (left_any b c _ hc hf).mono ?_; rintro e w' ⟨rfl, n, rfl⟩))
      go_ret
      exact ⟨by rw [HF.out]; rfl, _, rfl⟩
    · have HF := hid (show c.fin = 0 by simp [Cu.fin, hcode, hp])
      go_enter Try.func68, Try.ntmps68
      go_wp2_with (first
        | (go_at_call 57; refine (err_any b c _ hc).mono ?_; rintro e w' ⟨rfl, rfl⟩)
        | (go_at_call 75; refine (left_any b c _ hc hf).mono ?_; rintro e w' ⟨rfl, n, rfl⟩))
      go_ret
      exact ⟨by rw [HF.out]; rfl, _, rfl⟩
  · have hb : (c.code != 0) = true := by simpa using hcode
    have HF := hid (show c.fin = c.code by simp [Cu.fin, hcode])
    clear hcode
    go_enter Try.func68, Try.ntmps68
    go_wp2_with (go_at_call 57; refine (err_any b c _ hc).mono ?_; rintro e w' ⟨rfl, rfl⟩)
    go_ret
    exact ⟨by rw [HF.out]; rfl, 0, rfl⟩

/-- The readers, within a statement whose order is open. -/
theorem left_quiet (b : Nat) (c : Cu) (w : World) (n : Nat) (hc : CurAt w b c) (hf : c.fit) :
    Calls Try.prog 75 #[ptr b] (w.drewN n) fun e w' => e = .returned (.int .i64 ((c.en : Int) - c.pos)) ∧ ∃ m, w' = w.drewN m :=
  Calls.quiet_of ((left_any b c _ (hc.drewN n) hf).mono fun _ _ ⟨he, m, hm⟩ => ⟨he, m, hm.symm⟩)
theorem left_quiet_r (b : Nat) (c : Cu) (w : World) (n : Nat) (r : Int) (hr : (c.en : Int) - c.pos = r) (hc : CurAt w b c) (hf : c.fit) :
    Calls Try.prog 75 #[ptr b] (w.drewN n) fun e w' => e = .returned (.int .i64 r) ∧ ∃ m, w' = w.drewN m := by
  rw [← hr]; exact left_quiet b c w n hc hf
theorem left_any_r (b : Nat) (c : Cu) (w : World) (r : Int) (hr : (c.en : Int) - c.pos = r) (hc : CurAt w b c) (hf : c.fit) :
    Calls Try.prog 75 #[ptr b] w fun e w' => e = .returned (.int .i64 r) ∧ ∃ n, w.drewN n = w' := by
  rw [← hr]; exact left_any b c w hc hf
theorem err_quiet (b : Nat) (c : Cu) (w : World) (n : Nat) (hc : CurAt w b c) :
    Calls Try.prog 57 #[ptr b] (w.drewN n) fun e w' => e = .returned (.int .i64 c.code) ∧ ∃ m, w' = w.drewN m :=
  Calls.quiet_of_same ((err_any b c _ (hc.drewN n)).mono fun _ _ ⟨he, hm⟩ => ⟨he, hm.symm⟩)
theorem at_quiet (b : Nat) (c : Cu) (w : World) (n : Nat) (hc : CurAt w b c) :
    Calls Try.prog 58 #[ptr b] (w.drewN n) fun e w' => e = .returned (.int .i64 c.pos) ∧ ∃ m, w' = w.drewN m :=
  Calls.quiet_of_same ((at_any b c _ (hc.drewN n)).mono fun _ _ ⟨he, hm⟩ => ⟨he, hm.symm⟩)
theorem end_quiet (b : Nat) (c : Cu) (w : World) (n : Nat) (hc : CurAt w b c) (hf : c.fit) :
    Calls Try.prog 68 #[ptr b] (w.drewN n) fun e w' => e = .returned (.int .i64 c.fin) ∧ ∃ m, w' = w.drewN m :=
  Calls.quiet_of ((end_any b c _ (hc.drewN n) hf).mono fun _ _ ⟨he, m, hm⟩ => ⟨he, m, hm.symm⟩)

set_option maxRecDepth 100000 in
/-- No cursor at all. -/
theorem err_nil (w : World) : Calls Try.prog 57 #[.pointer none] w fun e w' => e = .returned (.int .i64 9) ∧ w = w' := by
  go_enter Try.func57, Try.ntmps57
  go_wp2
  go_ret
  exact ⟨rfl, rfl⟩
end Go.Proofs.Ytdjbgojdkaipfaa
