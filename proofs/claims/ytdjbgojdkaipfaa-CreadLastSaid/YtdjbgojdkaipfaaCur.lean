/-
  Walks of package cursor.
-/
import Derived.Test.YtdjbgojdkaipfaaBytes
import Derived.Deep.QuietTactic
import Derived.BigQuiet
import Derived.StillTailTactics
namespace Go.Proofs.Ytdjbgojdkaipfaa
open Go.RowKit

/-- A cursor's state. -/
structure Cu where
  s : List UInt8
  pos : Nat
  en : Nat
  code : Int
/-- The state fits: it stands within its bounds, and these within the text. -/
structure Cu.fit (c : Cu) : Prop where
  le1 : c.pos ≤ c.en
  le2 : c.en ≤ c.s.length
  le3 : c.s.length ≤ 1125899906842624
def Cu.why (c : Cu) (n : Int) : Int := if c.code ≠ 0 then c.code else if n < 0 then 13 else if (c.en : Int) - c.pos < n then 1 else 0
def Cu.take (c : Cu) (n : Int) : Cu := if c.why n = 0 then { c with pos := c.pos + n.toNat } else { c with code := c.why n }
def Cu.text (c : Cu) (n : Int) : List UInt8 := if c.why n = 0 then (c.s.drop c.pos).take n.toNat else []
def Cu.from_ (c : Cu) (n : Int) : Int := if c.why n = 0 then (c.pos : Int) else 0
def Cu.good (c : Cu) (n : Int) : Bool := decide (c.why n = 0)
def Cu.byte (c : Cu) : Int := if c.why 1 = 0 then byteAt c.s c.pos else 0
def Cu.fail (c : Cu) (code : Int) : Cu := if c.code = 0 then { c with code := code } else c
def Cu.fin (c : Cu) : Int := if c.code ≠ 0 then c.code else if c.pos < c.en then 2 else 0
def Cu.peek (c : Cu) : Int := if c.code = 0 ∧ c.pos < c.en then byteAt c.s c.pos else 0
def Cu.peeks (c : Cu) : Bool := decide (c.code = 0 ∧ c.pos < c.en)
def Cu.sub (c : Cu) (n : Int) : Cu := { s := c.s, pos := c.pos, en := c.pos + n.toNat, code := 0 }
def Cu.start (s : List UInt8) : Cu := { s := s, pos := 0, en := s.length, code := 0 }

def CurAt (w : World) (b : Nat) (c : Cu) : Prop := Blk w b 153 #[Sv c.s, .int .i64 c.pos, .int .i64 c.en, .int .i64 c.code]
@[go_sem] def ptr (b : Nat) : Value := .pointer (some ⟨b, 0, none⟩)

theorem Cu.why_zero {c : Cu} {n : Int} (h : c.why n = 0) : c.code = 0 ∧ 0 ≤ n ∧ n ≤ (c.en : Int) - c.pos := by
  unfold Cu.why at h
  split at h
  · contradiction
  · rename_i hc
    split at h
    · simp at h
    · split at h
      · simp at h
      · exact ⟨by simpa using hc, by omega, by omega⟩
theorem Cu.take_fit {c : Cu} (h : c.fit) (n : Int) : (c.take n).fit := by
  unfold Cu.take
  split
  · rename_i hw
    obtain ⟨_, h1, h2⟩ := Cu.why_zero hw
    exact ⟨by simp; have := h.le1; omega, h.le2, h.le3⟩
  · exact ⟨h.le1, h.le2, h.le3⟩
theorem Cu.fail_fit {c : Cu} (h : c.fit) (n : Int) : (c.fail n).fit := by
  unfold Cu.fail
  split
  · exact ⟨h.le1, h.le2, h.le3⟩
  · exact h
theorem Cu.sub_fit {c : Cu} (h : c.fit) {n : Int} (hw : c.why n = 0) : (c.sub n).fit := by
  obtain ⟨_, h1, h2⟩ := Cu.why_zero hw
  have := h.le1; have := h.le2
  exact ⟨by simp [Cu.sub], by simp [Cu.sub]; omega, h.le3⟩
theorem Cu.start_fit {s : List UInt8} (h : s.length ≤ 1125899906842624) : (Cu.start s).fit := ⟨by simp [Cu.start], by simp [Cu.start], h⟩

section
variable {w w' : World} {b : Nat} {c : Cu}
theorem CurAt.cells (h : CurAt w b c) : w.cell? ⟨b, 0, none⟩ = some (Sv c.s) ∧ w.cell? ⟨b, 1, none⟩ = some (.int .i64 c.pos) ∧ w.cell? ⟨b, 2, none⟩ = some (.int .i64 c.en) ∧ w.cell? ⟨b, 3, none⟩ = some (.int .i64 c.code) :=
  ⟨Blk.cell h 0, Blk.cell h 1, Blk.cell h 2, Blk.cell h 3⟩
theorem CurAt.free (h : CurAt w b c) (i : Nat) : w.frozen? ⟨b, i, none⟩ = false := Blk.frozen h i
theorem CurAt.set_code (h : CurAt w b c) (n : Int) : CurAt (w.setCell ⟨b, 3, none⟩ (.int .i64 n)) b { c with code := n } := Blk.set_ h 3 _
theorem CurAt.set_pos (h : CurAt w b c) (n : Nat) : CurAt (w.setCell ⟨b, 1, none⟩ (.int .i64 n)) b { c with pos := n } := Blk.set_ h 1 _
theorem CurAt.drewN (h : CurAt w b c) (n : Nat) : CurAt (w.drewN n) b c := h
theorem CurAt.drew (h : CurAt w b c) : CurAt w.drew b c := h
theorem CurAt.alloc (h : CurAt w b c) (o : Obj) : CurAt (w.alloc o) b c := Blk.alloc h o
theorem CurAt.ext (h : CurAt w b c) (hb : Below w.heap.size w w') : CurAt w' b c := Blk.below h hb (Blk.lt h)
theorem CurAt.other (h : CurAt w b c) {k : Nat} (hg : w.grownBy w' (some k)) (hne : b ≠ k) : CurAt w' b c := Blk.grown h hg (by intro e; injection e with e; exact hne e)
theorem CurAt.lt (h : CurAt w b c) : b < w.heap.size := Blk.lt h
end
theorem only_self (w : World) (b i : Nat) (v : Value) : w.grownBy (w.setCell ⟨b, i, none⟩ v) (some b) := only_setCell (World.grownBy.refl w _) (.inl rfl) v

set_option maxRecDepth 100000 in
set_option maxHeartbeats 400000 in
theorem pass_any (b : Nat) (c : Cu) (n : Int) (w : World) (hc : CurAt w b c) (hf : c.fit) (n0 : -9223372036854775808 ≤ n) (n1 : n ≤ 9223372036854775807) :
    Calls Try.prog 147 #[ptr b, .int .i64 n] w fun e w' => e = .returned (.tuple #[.int .i64 (c.from_ n), .bool (c.good n)]) ∧ CurAt w' b (c.take n) ∧ w.grownBy w' (some b) := by
  obtain ⟨s, pos, en, code⟩ := c
  obtain ⟨c0, c1, c2, c3⟩ := hc.cells
  have f1 := hc.free 1
  have f3 := hc.free 3
  obtain ⟨l1, l2, l3⟩ := hf
  have Hc := hid hc
  simp only at c0 c1 c2 c3 l1 l2 l3
  clear hc
  unfold ptr
  by_cases hcode : code = 0
  case neg =>
    have hb : (code != 0) = true := by simpa using hcode
    have hw := hid (show Cu.why ⟨s, pos, en, code⟩ n = code by simp [Cu.why, hcode])
    have HC := hid hcode
    clear hcode
    go_enter Try.func147, Try.ntmps147
    go_wp2
    go_ret2
    refine ⟨?_, ?_, World.grownBy.refl _ _⟩
    · simp [Cu.from_, Cu.good, hw.out, HC.out]
    · simp [Cu.take, hw.out, HC.out]; exact Hc.out
  case pos =>
    subst hcode
    by_cases hn : n < 0
    · have hw := hid (show Cu.why ⟨s, pos, en, 0⟩ n = 13 by simp [Cu.why, hn])
      go_enter Try.func147, Try.ntmps147
      go_wp2
      go_ret2
      refine ⟨?_, ?_, ?_⟩
      · simp [Cu.from_, Cu.good, hw.out]
      · simp [Cu.take, hw.out]; exact Hc.out.set_code 13
      · exact only_self _ _ _ _
    · by_cases hl : (en : Int) - pos < n
      · have hw := hid (show Cu.why ⟨s, pos, en, 0⟩ n = 1 by simp [Cu.why, hn, hl])
        go_enter Try.func147, Try.ntmps147
        go_wp2
        go_quiet (fail)
        go_wp2
        go_ret2
        refine ⟨?_, ?_, ?_⟩
        · simp [Cu.from_, Cu.good, hw.out]
        · simp [Cu.take, hw.out]; exact CurAt.set_code (w := w.drewN _) Hc.out 1
        · exact only_setCell (only_drewN (World.grownBy.refl w _) _) (.inl rfl) _
      · have hw := hid (show Cu.why ⟨s, pos, en, 0⟩ n = 0 by simp [Cu.why, hn, hl])
        go_enter Try.func147, Try.ntmps147
        go_wp2
        go_quiet (fail)
        go_wp2
        go_ret2
        have e : (pos : Int) + n = ((pos + n.toNat : Nat) : Int) := by omega
        refine ⟨?_, ?_, ?_⟩
        · simp [Cu.from_, Cu.good, hw.out]
        · simp only [Cu.take, hw.out, if_true]; rw [e]; exact CurAt.set_pos (w := w.drewN _) Hc.out (pos + n.toNat)
        · exact only_setCell (only_drewN (World.grownBy.refl w _) _) (.inl rfl) _

set_option maxRecDepth 100000 in
/-- The same of no cursor at all. -/
theorem pass_nil (n : Int) (w : World) :
    Calls Try.prog 147 #[.pointer none, .int .i64 n] w fun e w' => e = .returned (.tuple #[.int .i64 0, .bool false]) ∧ w' = w := by
  go_enter Try.func147, Try.ntmps147
  go_wp2
  go_ret2
  exact ⟨rfl, rfl⟩
set_option maxRecDepth 100000 in
theorem new_any (s : List UInt8) (w : World) (hs : s.length ≤ 1125899906842624) :
    Calls Try.prog 53 #[Sv s] w fun e w' => ∃ b, e = .returned (ptr b) ∧ w.heap.size ≤ b ∧ CurAt w' b (Cu.start s) ∧ Below w.heap.size w w' := by
  go_enter Try.func53, Try.ntmps53
  go_wp2
  go_ret
  exact ⟨w.heap.size, rfl, Nat.le_refl _, Blk.new w _ _, ext_alloc w _⟩
set_option maxRecDepth 100000 in
theorem at_any (b : Nat) (c : Cu) (w : World) (hc : CurAt w b c) :
    Calls Try.prog 58 #[ptr b] w fun e w' => e = .returned (.int .i64 c.pos) ∧ w = w' := by
  obtain ⟨c0, c1, c2, c3⟩ := hc.cells
  unfold ptr
  go_enter Try.func58, Try.ntmps58
  go_wp2
  go_ret
  exact ⟨rfl, rfl⟩
set_option maxRecDepth 100000 in
theorem left_any (b : Nat) (c : Cu) (w : World) (hc : CurAt w b c) (hf : c.fit) :
    Calls Try.prog 75 #[ptr b] w fun e w' => e = .returned (.int .i64 ((c.en : Int) - c.pos)) ∧ ∃ n, w.drewN n = w' := by
  obtain ⟨c0, c1, c2, c3⟩ := hc.cells
  obtain ⟨l1, l2, l3⟩ := hf
  unfold ptr
  go_enter Try.func75, Try.ntmps75
  go_wp2
  go_quiet (fail)
  go_wp2
  go_ret
  exact ⟨rfl, _, rfl⟩
set_option maxRecDepth 100000 in
theorem err_any (b : Nat) (c : Cu) (w : World) (hc : CurAt w b c) :
    Calls Try.prog 57 #[ptr b] w fun e w' => e = .returned (.int .i64 c.code) ∧ w = w' := by
  obtain ⟨c0, c1, c2, c3⟩ := hc.cells
  unfold ptr
  go_enter Try.func57, Try.ntmps57
  go_wp2
  go_ret
  exact ⟨rfl, rfl⟩
set_option maxRecDepth 100000 in
theorem fail_any (b : Nat) (c : Cu) (n : Int) (w : World) (hc : CurAt w b c) :
    Calls Try.prog 112 #[ptr b, .int .i64 n] w fun e w' => e = .returned (.tuple #[]) ∧ CurAt w' b (c.fail n) ∧ w.grownBy w' (some b) := by
  obtain ⟨s, pos, en, code⟩ := c
  obtain ⟨c0, c1, c2, c3⟩ := hc.cells
  have f3 := hc.free 3
  have Hc := hid hc
  simp only at c0 c1 c2 c3
  clear hc
  unfold ptr
  by_cases hcode : code = 0
  · subst hcode
    go_enter Try.func112, Try.ntmps112
    go_wp2
    go_end0
    exact ⟨rfl, by simp [Cu.fail]; exact Hc.out.set_code n, only_self _ _ _ _⟩
  · have hb : (code == 0) = false := by simpa using hcode
    have HC := hid hcode
    clear hcode
    go_enter Try.func112, Try.ntmps112
    go_wp2
    go_end0
    exact ⟨rfl, by simp [Cu.fail, HC.out]; exact Hc.out, World.grownBy.refl _ _⟩

theorem only_at {w w1 : World} {b k : Nat} (hg : w.grownBy w1 (some b)) (hk : k < w.heap.size) (hne : k ≠ b) :
    (∀ o, w1.cell? ⟨k, o, none⟩ = w.cell? ⟨k, o, none⟩) ∧ (∀ o, w1.frozen? ⟨k, o, none⟩ = w.frozen? ⟨k, o, none⟩) :=
  ⟨fun o => World.cell?_of_block (hg.block k hk (fun e => hne (by injection e))), fun o => World.frozen?_of_block (hg.block k hk (fun e => hne (by injection e)))⟩
theorem Cu.take_s (c : Cu) (n : Int) : (c.take n).s = c.s := by unfold Cu.take; split <;> rfl
/-- What is known behind the boxes of a method's own, of the world as the method found it. -/
theorem only_boxes {w w1 w2 : World} {b : Nat} (h : Below w.heap.size w w1) (hg : w1.grownBy w2 (some b)) : w.grownBy w2 (some b) := only_trans (only_of_below h _) hg
theorem only_store {w w1 : World} {b k i : Nat} {v : Value} (h : w.grownBy w1 (some b)) (hk : w.heap.size ≤ k) : w.grownBy (w1.setCell ⟨k, i, none⟩ v) (some b) := only_setCell h (.inr hk) v

set_option maxRecDepth 100000 in
set_option maxHeartbeats 600000 in
theorem byte_any (b : Nat) (c : Cu) (w : World) (hc : CurAt w b c) (hf : c.fit) :
    Calls Try.prog 111 #[ptr b] w fun e w' => e = .returned (.int .u8 c.byte) ∧ CurAt w' b (c.take 1) ∧ w.grownBy w' (some b) := by
  have hlt := hc.lt
  have ts := hid (Cu.take_s c 1)
  have Hc : Hid (CurAt ((w.alloc (.cells #[.pointer (some ⟨b, 0, none⟩)] 75)).alloc (.cells #[.int .u8 0] 5)) b c) := (Blk.alloc (Blk.alloc hc _) _)
  clear hc
  have l1 := hf.le1
  have l2 := hf.le2
  have l3 := hf.le3
  by_cases hw : c.why 1 = 0
  case pos =>
    have hgood : c.good 1 = true := by simp [Cu.good, hw]
    obtain ⟨_, hn0, hle⟩ := Cu.why_zero hw
    have hfr : c.from_ 1 = (c.pos : Int) := by simp [Cu.from_, hw]
    have HB := hid (show c.byte = byteAt c.s c.pos by simp [Cu.byte, hw])
    have HW := hid hw
    clear hw
    unfold ptr
    go_enter Try.func111, Try.ntmps111
    go_wp2_with (first
      | (go_at_call 147
         refine (pass_any b c 1 _ Hc.out hf (by omega) (by omega)).mono ?_
         rintro e w1 ⟨rfl, hc1, hg⟩
         obtain ⟨x0, f0⟩ := only_at hg (k := w.heap.size) (by simp <;> omega) (by omega)
         have q0 : w1.cell? ⟨w.heap.size, 0, none⟩ = some (.pointer (some ⟨b, 0, none⟩)) := by rw [x0]; go_simp
         have g0 : w1.frozen? ⟨w.heap.size, 0, none⟩ = false := by rw [f0]; go_simp
         obtain ⟨x1, f1⟩ := only_at hg (k := w.heap.size + 1) (by simp <;> omega) (by omega)
         have q1 : w1.cell? ⟨w.heap.size + 1, 0, none⟩ = some (.int .u8 0) := by rw [x1]; go_simp
         have g1 : w1.frozen? ⟨w.heap.size + 1, 0, none⟩ = false := by rw [f1]; go_simp
         have qs : w1.cell? ⟨b, 0, none⟩ = some (Sv c.s) := by rw [hc1.cells.1, ts.out]
         have hbx : w.grownBy w1 (some b) := only_boxes (b := b) ((ext_alloc w _).trans ((ext_alloc _ _).mono (by simp <;> omega))) hg
         have HC1 := hid hc1
         clear x0 f0 x1 f1 hc1 hg)
      | (go_at_call 146; go_in)
      | (go_at_call 148; go_in)
      | (go_end0; simp only []; go_at_K))
    go_ret
    exact ⟨by rw [HB.out]; rfl, Blk.far HC1.out (by simp; omega) _, only_store hbx (by omega)⟩
  case neg =>
    have hgood : c.good 1 = false := by simp [Cu.good, hw]
    have HW := hid hw
    clear hw
    unfold ptr
    go_enter Try.func111, Try.ntmps111
    go_wp2_with (first
      | (go_at_call 147
         refine (pass_any b c 1 _ Hc.out hf (by omega) (by omega)).mono ?_
         rintro e w1 ⟨rfl, hc1, hg⟩
         obtain ⟨x0, f0⟩ := only_at hg (k := w.heap.size) (by simp <;> omega) (by omega)
         have q0 : w1.cell? ⟨w.heap.size, 0, none⟩ = some (.pointer (some ⟨b, 0, none⟩)) := by rw [x0]; go_simp
         have g0 : w1.frozen? ⟨w.heap.size, 0, none⟩ = false := by rw [f0]; go_simp
         obtain ⟨x1, f1⟩ := only_at hg (k := w.heap.size + 1) (by simp <;> omega) (by omega)
         have q1 : w1.cell? ⟨w.heap.size + 1, 0, none⟩ = some (.int .u8 0) := by rw [x1]; go_simp
         have g1 : w1.frozen? ⟨w.heap.size + 1, 0, none⟩ = false := by rw [f1]; go_simp
         have qs : w1.cell? ⟨b, 0, none⟩ = some (Sv c.s) := by rw [hc1.cells.1, ts.out]
         have hbx : w.grownBy w1 (some b) := only_boxes (b := b) ((ext_alloc w _).trans ((ext_alloc _ _).mono (by simp <;> omega))) hg
         have HC1 := hid hc1
         clear x0 f0 x1 f1 hc1 hg)
      | (go_at_call 146; go_in)
      | (go_at_call 148; go_in)
      | (go_end0; simp only []; go_at_K))
    go_ret
    exact ⟨by simp [Cu.byte, HW.out], HC1.out, hbx⟩

set_option maxRecDepth 100000 in
theorem take1_any (b p0 p1 p2 pos : Nat) (s : List UInt8) (n : Int) (old : Value) (w : World) (h0 : w.cell? ⟨p0, 0, none⟩ = some (.pointer (some ⟨b, 0, none⟩))) (h1 : w.cell? ⟨p1, 0, none⟩ = some (.int .i64 n))
    (h2 : w.cell? ⟨p2, 0, none⟩ = some old) (hf : w.frozen? ⟨p2, 0, none⟩ = false) (hs : w.cell? ⟨b, 0, none⟩ = some (Sv s)) (n0 : 0 ≤ n) (n1 : (pos : Int) + n ≤ s.length) (n2 : s.length ≤ 1125899906842624) :
    Calls Try.prog 169 #[.int .i64 pos, .pointer (some ⟨p0, 0, none⟩), .pointer (some ⟨p1, 0, none⟩), .pointer (some ⟨p2, 0, none⟩)] w fun e w' =>
      e = .returned (.tuple #[]) ∧ w' = (w.setCell ⟨p2, 0, none⟩ (Sv ((s.drop pos).take n.toNat))).drew := by
  have e1 := (show ((pos : Int) + n).toNat - pos = n.toNat by omega)
  have k1 : 0 ≤ (pos : Int) + n := by omega
  have k2 : (pos : Int) ≤ (pos : Int) + n := by omega
  have k3 : (0 : Int) ≤ (pos : Int) := by omega
  have hwr : IntKind.i64.wrap ((pos : Int) + n) = (pos : Int) + n := IntWalk.i64_in _ (by omega)
  go_enter Try.func169, Try.ntmps169
  go_wp2_with fail
  go_still_tail 9, (by kernel_rfl)
  change wpList _ _ _ _ _ w.drew
  go_wp2_with fail
  go_end0
  exact ⟨rfl, rfl⟩

set_option maxRecDepth 100000 in
set_option maxHeartbeats 600000 in
theorem take_any (b : Nat) (c : Cu) (n : Int) (w : World) (hc : CurAt w b c) (hf : c.fit) (n0 : -9223372036854775808 ≤ n) (n1 : n ≤ 9223372036854775807) :
    Calls Try.prog 152 #[ptr b, .int .i64 n] w fun e w' => e = .returned (Sv (c.text n)) ∧ CurAt w' b (c.take n) ∧ w.grownBy w' (some b) := by
  have hlt := hc.lt
  have ts := hid (Cu.take_s c n)
  have Hc : Hid (CurAt (((w.alloc (.cells #[.pointer (some ⟨b, 0, none⟩)] 75)).alloc (.cells #[.int .i64 n] 3)).alloc (.cells #[Sv []] 9)) b c) := (Blk.alloc (Blk.alloc (Blk.alloc hc _) _) _)
  clear hc
  have l1 := hf.le1
  have l2 := hf.le2
  have l3 := hf.le3
  by_cases hw : c.why n = 0
  case pos =>
    have hgood : c.good n = true := by simp [Cu.good, hw]
    obtain ⟨_, hn0, hle⟩ := Cu.why_zero hw
    have hfr : c.from_ n = (c.pos : Int) := by simp [Cu.from_, hw]
    have HB := hid (show c.text n = (c.s.drop c.pos).take n.toNat by simp [Cu.text, hw])
    have HW := hid hw
    clear hw
    unfold ptr
    go_enter Try.func152, Try.ntmps152
    go_wp2_with (first
      | (go_at_call 147
         refine (pass_any b c n _ Hc.out hf (by omega) (by omega)).mono ?_
         rintro e w1 ⟨rfl, hc1, hg⟩
         obtain ⟨x0, f0⟩ := only_at hg (k := w.heap.size) (by simp <;> omega) (by omega)
         have q0 : w1.cell? ⟨w.heap.size, 0, none⟩ = some (.pointer (some ⟨b, 0, none⟩)) := by rw [x0]; go_simp
         have g0 : w1.frozen? ⟨w.heap.size, 0, none⟩ = false := by rw [f0]; go_simp
         obtain ⟨x1, f1⟩ := only_at hg (k := w.heap.size + 1) (by simp <;> omega) (by omega)
         have q1 : w1.cell? ⟨w.heap.size + 1, 0, none⟩ = some (.int .i64 n) := by rw [x1]; go_simp
         have g1 : w1.frozen? ⟨w.heap.size + 1, 0, none⟩ = false := by rw [f1]; go_simp
         obtain ⟨x2, f2⟩ := only_at hg (k := w.heap.size + 1 + 1) (by simp <;> omega) (by omega)
         have q2 : w1.cell? ⟨w.heap.size + 1 + 1, 0, none⟩ = some (Sv []) := by rw [x2]; go_simp
         have g2 : w1.frozen? ⟨w.heap.size + 1 + 1, 0, none⟩ = false := by rw [f2]; go_simp
         have qs : w1.cell? ⟨b, 0, none⟩ = some (Sv c.s) := by rw [hc1.cells.1, ts.out]
         have hbx : w.grownBy w1 (some b) := only_boxes (b := b) (((ext_alloc w _).trans ((ext_alloc _ _).mono (by simp <;> omega))).trans ((ext_alloc _ _).mono (by simp <;> omega))) hg
         have HC1 := hid hc1
         clear x0 f0 x1 f1 x2 f2 hc1 hg)
      | (go_at_call 146; go_in)
      | (go_at_call 169; refine (take1_any b _ _ _ c.pos c.s n _ w1 q0 q1 q2 g2 qs (by omega) (by omega) (by omega)).mono ?_; rintro e w2 ⟨rfl, rfl⟩)
      | (go_end0; simp only []; go_at_K))
    go_ret
    exact ⟨by rw [HB.out]; rfl, (Blk.far HC1.out (by simp; omega) _).drew, only_drew (only_store hbx (by omega))⟩
  case neg =>
    have hgood : c.good n = false := by simp [Cu.good, hw]
    have HW := hid hw
    clear hw
    unfold ptr
    go_enter Try.func152, Try.ntmps152
    go_wp2_with (first
      | (go_at_call 147
         refine (pass_any b c n _ Hc.out hf (by omega) (by omega)).mono ?_
         rintro e w1 ⟨rfl, hc1, hg⟩
         obtain ⟨x0, f0⟩ := only_at hg (k := w.heap.size) (by simp <;> omega) (by omega)
         have q0 : w1.cell? ⟨w.heap.size, 0, none⟩ = some (.pointer (some ⟨b, 0, none⟩)) := by rw [x0]; go_simp
         have g0 : w1.frozen? ⟨w.heap.size, 0, none⟩ = false := by rw [f0]; go_simp
         obtain ⟨x1, f1⟩ := only_at hg (k := w.heap.size + 1) (by simp <;> omega) (by omega)
         have q1 : w1.cell? ⟨w.heap.size + 1, 0, none⟩ = some (.int .i64 n) := by rw [x1]; go_simp
         have g1 : w1.frozen? ⟨w.heap.size + 1, 0, none⟩ = false := by rw [f1]; go_simp
         obtain ⟨x2, f2⟩ := only_at hg (k := w.heap.size + 1 + 1) (by simp <;> omega) (by omega)
         have q2 : w1.cell? ⟨w.heap.size + 1 + 1, 0, none⟩ = some (Sv []) := by rw [x2]; go_simp
         have g2 : w1.frozen? ⟨w.heap.size + 1 + 1, 0, none⟩ = false := by rw [f2]; go_simp
         have qs : w1.cell? ⟨b, 0, none⟩ = some (Sv c.s) := by rw [hc1.cells.1, ts.out]
         have hbx : w.grownBy w1 (some b) := only_boxes (b := b) (((ext_alloc w _).trans ((ext_alloc _ _).mono (by simp <;> omega))).trans ((ext_alloc _ _).mono (by simp <;> omega))) hg
         have HC1 := hid hc1
         clear x0 f0 x1 f1 x2 f2 hc1 hg)
      | (go_at_call 146; go_in)
      | (go_at_call 169; refine (take1_any b _ _ _ c.pos c.s n _ w1 q0 q1 q2 g2 qs (by omega) (by omega) (by omega)).mono ?_; rintro e w2 ⟨rfl, rfl⟩)
      | (go_end0; simp only []; go_at_K))
    go_ret
    exact ⟨by simp [Cu.text, HW.out], HC1.out, hbx⟩

end Go.Proofs.Ytdjbgojdkaipfaa
