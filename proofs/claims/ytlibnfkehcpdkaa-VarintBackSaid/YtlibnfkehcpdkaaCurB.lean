/-
  Walks of package cursor: Sub, Peek, End, and no cursor at all.
-/
import Derived.Test.YtlibnfkehcpdkaaCur
namespace Go.Proofs.Ytlibnfkehcpdkaa
open Go.RowKit

theorem sub1_any (b p0 p1 p2 pos : Nat) (s : List UInt8) (n : Int) (old : Value) (w : World) (h0 : w.cell? ⟨p0, 0, none⟩ = some (.pointer (some ⟨b, 0, none⟩))) (h1 : w.cell? ⟨p1, 0, none⟩ = some (.int .i64 n))
    (h2 : w.cell? ⟨p2, 0, none⟩ = some old) (hf : w.frozen? ⟨p2, 0, none⟩ = false) (hs : w.cell? ⟨b, 0, none⟩ = some (Sv s)) (n0 : 0 ≤ n) (n1 : (pos : Int) + n ≤ s.length) (n2 : s.length ≤ 1125899906842624) :
    Calls Try.prog 48 #[.int .i64 pos, .pointer (some ⟨p0, 0, none⟩), .pointer (some ⟨p1, 0, none⟩), .pointer (some ⟨p2, 0, none⟩)] w fun e w' =>
      e = .returned (.tuple #[]) ∧ w' = ((w.setCell ⟨p2, 0, none⟩ (.pointer (some ⟨w.heap.size, 0, none⟩))).alloc (.cells #[Sv s, .int .i64 pos, .int .i64 ((pos + n.toNat : Nat) : Int), .int .i64 0] 70)).drew := by
  have hp : p2 < w.heap.size := World.block_lt_of_cell? w _ h2
  have e1 := hid (show (((pos + n.toNat : Nat) : Int) = (pos : Int) + n) by omega)
  have k3 : (0 : Int) ≤ (pos : Int) := by omega
  have hwr : IntKind.i64.wrap ((pos : Int) + n) = (pos : Int) + n := IntWalk.i64_in _ (by omega)
  go_enter Try.func48, Try.ntmps48
  go_wp2_with fail
  go_still_tail 8, (by kernel_rfl)
  change wpList _ _ _ _ _ w.drew
  go_wp2_with fail
  go_end0
  rw [e1.out]
  exact ⟨rfl, rfl⟩

def SubPost (b : Nat) (c : Cu) (n : Int) (w : World) (e : Ending) (w' : World) : Prop :=
  (c.good n = true ∧ ∃ x, e = .returned (ptr x) ∧ w.heap.size ≤ x ∧ CurAt w' x (c.sub n) ∧ CurAt w' b (c.take n) ∧ w.grownBy w' (some b)) ∨
  (c.good n = false ∧ e = .returned (.pointer none) ∧ CurAt w' b (c.take n) ∧ w.grownBy w' (some b))
set_option maxHeartbeats 600000 in
theorem sub_any (b : Nat) (c : Cu) (n : Int) (w : World) (hc : CurAt w b c) (hf : c.fit) (n0 : -9223372036854775808 ≤ n) (n1 : n ≤ 9223372036854775807) :
    Calls Try.prog 24 #[ptr b, .int .i64 n] w fun e w' => SubPost b c n w e w' := by
  have hlt := hc.lt
  have ts := hid (Cu.take_s c n)
  have Hc : Hid (CurAt (((w.alloc (.cells #[.pointer (some ⟨b, 0, none⟩)] 33)).alloc (.cells #[.int .i64 n] 3)).alloc (.cells #[.pointer none] 33)) b c) := (Blk.alloc (Blk.alloc (Blk.alloc hc _) _) _)
  clear hc
  have l1 := hf.le1
  have l2 := hf.le2
  have l3 := hf.le3
  by_cases hw : c.why n = 0
  case pos =>
    have hgood : c.good n = true := by simp [Cu.good, hw]
    obtain ⟨_, hn0, hle⟩ := Cu.why_zero hw
    have hfr : c.from_ n = (c.pos : Int) := by simp [Cu.from_, hw]
    have HB := hid (show c.good n = true by simp [Cu.good, hw])
    have HW := hid hw
    clear hw
    unfold ptr
    go_enter Try.func24, Try.ntmps24
    go_wp2_with (first
      | (go_at_call 46
         refine (pass_any b c n _ Hc.out hf (by omega) (by omega)).mono ?_
         rintro e w1 ⟨rfl, hc1, hg⟩
         obtain ⟨x0, f0⟩ := only_at hg (k := w.heap.size) (by simp <;> omega) (by omega)
         have q0 : w1.cell? ⟨w.heap.size, 0, none⟩ = some (.pointer (some ⟨b, 0, none⟩)) := by rw [x0]; go_simp
         have g0 : w1.frozen? ⟨w.heap.size, 0, none⟩ = false := by rw [f0]; go_simp
         obtain ⟨x1, f1⟩ := only_at hg (k := w.heap.size + 1) (by simp <;> omega) (by omega)
         have q1 : w1.cell? ⟨w.heap.size + 1, 0, none⟩ = some (.int .i64 n) := by rw [x1]; go_simp
         have g1 : w1.frozen? ⟨w.heap.size + 1, 0, none⟩ = false := by rw [f1]; go_simp
         obtain ⟨x2, f2⟩ := only_at hg (k := w.heap.size + 1 + 1) (by simp <;> omega) (by omega)
         have q2 : w1.cell? ⟨w.heap.size + 1 + 1, 0, none⟩ = some (.pointer none) := by rw [x2]; go_simp
         have g2 : w1.frozen? ⟨w.heap.size + 1 + 1, 0, none⟩ = false := by rw [f2]; go_simp
         have qs : w1.cell? ⟨b, 0, none⟩ = some (Sv c.s) := by rw [hc1.cells.1, ts.out]
         have hbx : w.grownBy w1 (some b) := only_boxes (b := b) (((ext_alloc w _).trans ((ext_alloc _ _).mono (by simp <;> omega))).trans ((ext_alloc _ _).mono (by simp <;> omega))) hg
         have HC1 := hid hc1
         have hsz : w.heap.size + 1 + 1 < w1.heap.size := by have h := hg.size; simp at h; omega
         clear x0 f0 x1 f1 x2 f2 hc1 hg)
      | (go_at_call 45; go_in)
      | (go_at_call 48; refine (sub1_any b _ _ _ c.pos c.s n _ w1 q0 q1 q2 g2 qs (by omega) (by omega) (by omega)).mono ?_; rintro e w2 ⟨rfl, rfl⟩)
      | (go_end0; simp only []; go_at_K))
    go_ret
    refine .inl ⟨HB.out, w1.heap.size, rfl, by omega, Blk.drew ?_, Blk.drew (Blk.alloc (Blk.far HC1.out (by simp; omega) _) _), only_drew (only_alloc (only_store hbx (by omega)) _)⟩
    have hn := Blk.new (w1.setCell ⟨w.heap.size + 1 + 1, 0, none⟩ (.pointer (some ⟨w1.heap.size, 0, none⟩))) 70 #[Sv c.s, .int .i64 c.pos, .int .i64 ((c.pos : Int) + max n 0), .int .i64 0]
    have hm : ((c.pos : Int) + max n 0) = ((c.pos + n.toNat : Nat) : Int) := by omega
    rw [hm] at hn ⊢
    simpa [CurAt, Cu.sub] using hn
  case neg =>
    have hgood : c.good n = false := by simp [Cu.good, hw]
    have HW := hid hw
    clear hw
    unfold ptr
    go_enter Try.func24, Try.ntmps24
    go_wp2_with (first
      | (go_at_call 46
         refine (pass_any b c n _ Hc.out hf (by omega) (by omega)).mono ?_
         rintro e w1 ⟨rfl, hc1, hg⟩
         obtain ⟨x0, f0⟩ := only_at hg (k := w.heap.size) (by simp <;> omega) (by omega)
         have q0 : w1.cell? ⟨w.heap.size, 0, none⟩ = some (.pointer (some ⟨b, 0, none⟩)) := by rw [x0]; go_simp
         have g0 : w1.frozen? ⟨w.heap.size, 0, none⟩ = false := by rw [f0]; go_simp
         obtain ⟨x1, f1⟩ := only_at hg (k := w.heap.size + 1) (by simp <;> omega) (by omega)
         have q1 : w1.cell? ⟨w.heap.size + 1, 0, none⟩ = some (.int .i64 n) := by rw [x1]; go_simp
         have g1 : w1.frozen? ⟨w.heap.size + 1, 0, none⟩ = false := by rw [f1]; go_simp
         obtain ⟨x2, f2⟩ := only_at hg (k := w.heap.size + 1 + 1) (by simp <;> omega) (by omega)
         have q2 : w1.cell? ⟨w.heap.size + 1 + 1, 0, none⟩ = some (.pointer none) := by rw [x2]; go_simp
         have g2 : w1.frozen? ⟨w.heap.size + 1 + 1, 0, none⟩ = false := by rw [f2]; go_simp
         have qs : w1.cell? ⟨b, 0, none⟩ = some (Sv c.s) := by rw [hc1.cells.1, ts.out]
         have hbx : w.grownBy w1 (some b) := only_boxes (b := b) (((ext_alloc w _).trans ((ext_alloc _ _).mono (by simp <;> omega))).trans ((ext_alloc _ _).mono (by simp <;> omega))) hg
         have HC1 := hid hc1
         have hsz : w.heap.size + 1 + 1 < w1.heap.size := by have h := hg.size; simp at h; omega
         clear x0 f0 x1 f1 x2 f2 hc1 hg)
      | (go_at_call 45; go_in)
      | (go_at_call 48; refine (take1_any b _ _ _ c.pos c.s n _ w1 q0 q1 q2 g2 qs (by omega) (by omega) (by omega)).mono ?_; rintro e w2 ⟨rfl, rfl⟩)
      | (go_end0; simp only []; go_at_K))
    go_ret
    exact .inr ⟨by simp [Cu.good, HW.out], rfl, HC1.out, hbx⟩


set_option maxHeartbeats 400000 in
theorem peek_any (b : Nat) (c : Cu) (w : World) (hc : CurAt w b c) (hf : c.fit) :
    Calls Try.prog 34 #[ptr b] w fun e w' => e = .returned (.tuple #[.int .u8 c.peek, .bool c.peeks]) ∧ ∃ n, w.drewN n = w' := by
  obtain ⟨s, pos, en, code⟩ := c
  obtain ⟨c0, c1, c2, c3⟩ := hc.cells
  obtain ⟨l1, l2, l3⟩ := hf
  simp only at c0 c1 c2 c3 l1 l2 l3
  clear hc
  unfold ptr
  by_cases hcode : code = 0
  · subst hcode
    by_cases hp : pos < en
    · have hq : ((pos : Int) == (en : Int)) = false := by rw [beq_eq_false_iff_ne]; omega
      have k0 : (0 : Int) ≤ (pos : Int) := by omega
      have k1 : (pos : Int) < (s.length : Int) := by omega
      have HP := hid hp
      clear hp
      go_enter Try.func34, Try.ntmps34
      go_wp2
      go_quiet (fail)
      go_wp2
      go_quiet (fail)
      go_wp2
      go_ret2
      exact ⟨by simp [Cu.peek, Cu.peeks, HP.out], by simp only [World.drewN_drewN]; exact ⟨_, rfl⟩⟩
    · have hq : ((pos : Int) == (en : Int)) = true := by rw [beq_iff_eq]; omega
      have HP := hid hp
      clear hp
      go_enter Try.func34, Try.ntmps34
      go_wp2
      go_quiet (fail)
      go_wp2
      go_ret2
      exact ⟨by simp [Cu.peek, Cu.peeks, HP.out], _, rfl⟩
  · have hb : (code != 0) = true := by simpa using hcode
    have HC := hid hcode
    clear hcode
    go_enter Try.func34, Try.ntmps34
    go_wp2
    go_quiet (fail)
    go_wp2
    go_ret2
    exact ⟨by simp [Cu.peek, Cu.peeks, HC.out], _, rfl⟩

set_option maxHeartbeats 400000 in
theorem end_any (b : Nat) (c : Cu) (w : World) (hc : CurAt w b c) (hf : c.fit) :
    Calls Try.prog 25 #[ptr b] w fun e w' => e = .returned (.int .i64 c.fin) ∧ ∃ n, w.drewN n = w' := by
  have l1 := hf.le1
  have l2 := hf.le2
  have l3 := hf.le3
  by_cases hcode : c.code = 0
  · by_cases hp : c.pos < c.en
    · have HF := hid (show c.fin = 2 by simp [Cu.fin, hcode, hp])
      go_enter Try.func25, Try.ntmps25
      go_wp2_with (first
        | (go_at_call 36; refine (err_any b c _ hc).mono ?_; rintro e w' ⟨rfl, rfl⟩)
        | (go_at_call 22; refine (left_any b c _ hc hf).mono ?_; rintro e w' ⟨rfl, n, rfl⟩))
      go_ret
      exact ⟨by rw [HF.out]; rfl, _, rfl⟩
    · have HF := hid (show c.fin = 0 by simp [Cu.fin, hcode, hp])
      go_enter Try.func25, Try.ntmps25
      go_wp2_with (first
        | (go_at_call 36; refine (err_any b c _ hc).mono ?_; rintro e w' ⟨rfl, rfl⟩)
        | (go_at_call 22; refine (left_any b c _ hc hf).mono ?_; rintro e w' ⟨rfl, n, rfl⟩))
      go_ret
      exact ⟨by rw [HF.out]; rfl, _, rfl⟩
  · have hb : (c.code != 0) = true := by simpa using hcode
    have HF := hid (show c.fin = c.code by simp [Cu.fin, hcode])
    clear hcode
    go_enter Try.func25, Try.ntmps25
    go_wp2_with (go_at_call 36; refine (err_any b c _ hc).mono ?_; rintro e w' ⟨rfl, rfl⟩)
    go_ret
    exact ⟨by rw [HF.out]; rfl, 0, rfl⟩

/-- The readers, within a statement whose order is open. -/
theorem left_quiet (b : Nat) (c : Cu) (w : World) (n : Nat) (hc : CurAt w b c) (hf : c.fit) :
    Calls Try.prog 22 #[ptr b] (w.drewN n) fun e w' => e = .returned (.int .i64 ((c.en : Int) - c.pos)) ∧ ∃ m, w' = w.drewN m :=
  Calls.quiet_of ((left_any b c _ (hc.drewN n) hf).mono fun _ _ ⟨he, m, hm⟩ => ⟨he, m, hm.symm⟩)
theorem left_quiet_r (b : Nat) (c : Cu) (w : World) (n : Nat) (r : Int) (hr : (c.en : Int) - c.pos = r) (hc : CurAt w b c) (hf : c.fit) :
    Calls Try.prog 22 #[ptr b] (w.drewN n) fun e w' => e = .returned (.int .i64 r) ∧ ∃ m, w' = w.drewN m := by
  rw [← hr]; exact left_quiet b c w n hc hf
theorem left_any_r (b : Nat) (c : Cu) (w : World) (r : Int) (hr : (c.en : Int) - c.pos = r) (hc : CurAt w b c) (hf : c.fit) :
    Calls Try.prog 22 #[ptr b] w fun e w' => e = .returned (.int .i64 r) ∧ ∃ n, w.drewN n = w' := by
  rw [← hr]; exact left_any b c w hc hf
theorem err_quiet (b : Nat) (c : Cu) (w : World) (n : Nat) (hc : CurAt w b c) :
    Calls Try.prog 36 #[ptr b] (w.drewN n) fun e w' => e = .returned (.int .i64 c.code) ∧ ∃ m, w' = w.drewN m :=
  Calls.quiet_of_same ((err_any b c _ (hc.drewN n)).mono fun _ _ ⟨he, hm⟩ => ⟨he, hm.symm⟩)
theorem at_quiet (b : Nat) (c : Cu) (w : World) (n : Nat) (hc : CurAt w b c) :
    Calls Try.prog 35 #[ptr b] (w.drewN n) fun e w' => e = .returned (.int .i64 c.pos) ∧ ∃ m, w' = w.drewN m :=
  Calls.quiet_of_same ((at_any b c _ (hc.drewN n)).mono fun _ _ ⟨he, hm⟩ => ⟨he, hm.symm⟩)
theorem end_quiet (b : Nat) (c : Cu) (w : World) (n : Nat) (hc : CurAt w b c) (hf : c.fit) :
    Calls Try.prog 25 #[ptr b] (w.drewN n) fun e w' => e = .returned (.int .i64 c.fin) ∧ ∃ m, w' = w.drewN m :=
  Calls.quiet_of ((end_any b c _ (hc.drewN n) hf).mono fun _ _ ⟨he, m, hm⟩ => ⟨he, m, hm.symm⟩)

/-- No cursor at all. -/
theorem err_nil (w : World) : Calls Try.prog 36 #[.pointer none] w fun e w' => e = .returned (.int .i64 9) ∧ w = w' := by
  go_enter Try.func36, Try.ntmps36
  go_wp2
  go_ret
  exact ⟨rfl, rfl⟩
theorem fail_nil (n : Int) (w : World) : Calls Try.prog 31 #[.pointer none, .int .i64 n] w fun e w' => e = .returned (.tuple #[]) ∧ w = w' := by
  go_enter Try.func31, Try.ntmps31
  go_wp2
  go_end0
  exact ⟨rfl, rfl⟩
theorem end_nil (w : World) : Calls Try.prog 25 #[.pointer none] w fun e w' => e = .returned (.int .i64 9) ∧ w = w' := by
  go_enter Try.func25, Try.ntmps25
  go_wp2_with (go_at_call 36; refine (err_nil _).mono ?_; rintro e w' ⟨rfl, rfl⟩)
  go_ret
  exact ⟨rfl, rfl⟩
theorem take_nil (n : Int) (w : World) : Calls Try.prog 23 #[.pointer none, .int .i64 n] w fun e w' => e = .returned (Sv []) ∧ Below w.heap.size w w' := by
  go_enter Try.func23, Try.ntmps23
  go_wp2_with (first
    | (go_at_call 46; refine (pass_nil n _).mono ?_; rintro e w' ⟨rfl, rfl⟩)
    | (go_at_call 45; go_in)
    | (go_end0; simp only []; go_at_K))
  go_ret
  exact ⟨rfl, by simpa using ext_trans (ext_trans (ext_alloc w _) (ext_alloc _ _)) (ext_alloc _ _)⟩
theorem sub_nil (n : Int) (w : World) : Calls Try.prog 24 #[.pointer none, .int .i64 n] w fun e w' => e = .returned (.pointer none) ∧ Below w.heap.size w w' := by
  go_enter Try.func24, Try.ntmps24
  go_wp2_with (first
    | (go_at_call 46; refine (pass_nil n _).mono ?_; rintro e w' ⟨rfl, rfl⟩)
    | (go_at_call 45; go_in)
    | (go_end0; simp only []; go_at_K))
  go_ret
  exact ⟨rfl, by simpa using ext_trans (ext_trans (ext_alloc w _) (ext_alloc _ _)) (ext_alloc _ _)⟩
end Go.Proofs.Ytlibnfkehcpdkaa
