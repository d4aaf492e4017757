/-
  Walks of package jnum: going past a number.
-/
import Derived.Test.YtgfdmdikiickpaaPJnum
import Derived.Test.YtgfdmdikiickpaaStill
import Derived.Test.YtgfdmdikiickpaaChain
import Derived.ScopeJumps
import Derived.WalkMore
namespace Go.Proofs.Ytgfdmdikiickpaa
open Go.RowKit

def seg (s : List UInt8) (p q : Nat) : List UInt8 := (s.drop p).take (q - p)
theorem seg_snoc (s : List UInt8) (p q : Nat) (h : p ≤ q) (hq : q < s.length) : seg s p (q + 1) = seg s p q ++ [bt (byteAt s q)] := by
  unfold seg
  rw [show q + 1 - p = (q - p) + 1 by omega, List.take_succ_eq_append_getElem (by simp; omega)]
  congr 1
  rw [List.getElem_drop]
  have e : p + (q - p) = q := by omega
  rw [byteAt_get s q hq]
  simp only [e]
  congr 1
  exact (bt_bi s[q]).symm
/-- The scan in its block, over a cursor; what it keeps. -/
structure Sc (w wr : World) (b bc p0 : Nat) (c : Cu) : Prop where
  blk : ∃ v out, Blk wr b 42 #[ptr bc, v] ∧ Own wr w.heap.size v out ∧ out.length ≤ c.pos ∧ (c.code = 0 → out = seg c.s p0 c.pos)
  cur : CurAt wr bc c
  gr : w.grownBy wr (some bc)
  hb : w.heap.size ≤ b
  ne : b ≠ bc
  le : p0 ≤ c.pos
theorem own_grown {w w' : World} {B g : Nat} {v : Value} {l : List UInt8} (h : Own w B v l) (hg : w.grownBy w' (some g)) (hne : v.ownBlock ≠ some g) : Own w' B v l :=
  World.ownsRow.kept h hg (by simp; exact Or.inr hne)
theorem cur_scan_ne {w : World} {bc : Nat} {c : Cu} (h : CurAt w bc c) {B : Nat} {v : Value} {l : List UInt8} (ho : Own w B v l) : v.ownBlock ≠ some bc := own_blk_ne (t := 54) ho h (by decide)
theorem Sc.cells {w wr : World} {b bc p0 : Nat} {c : Cu} (h : Sc w wr b bc p0 c) : wr.cell? ⟨b, 0, none⟩ = some (ptr bc) := by
  obtain ⟨v, out, h1, _⟩ := h.blk
  exact h1.cell 0
/-- The cursor moved, and only it. -/
theorem Sc.move {w wr w' : World} {b bc p0 : Nat} {c c' : Cu} (h : Sc w wr b bc p0 c) (hc : CurAt w' bc c') (hg : wr.grownBy w' (some bc)) (hp : c.pos ≤ c'.pos) (hs : c'.code = 0 → c' = c) : Sc w w' b bc p0 c' := by
  obtain ⟨v, out, h1, h2, h3, h4⟩ := h.blk
  refine ⟨⟨v, out, h1.grown hg (by simpa using h.ne), own_grown h2 hg (cur_scan_ne h.cur h2), by omega, fun h0 => ?_⟩, hc, only_trans h.gr hg, h.hb, h.ne, by have := h.le; omega⟩
  have := hs h0
  subst this
  exact h4 h0
theorem Sc.drewN {w wr : World} {b bc p0 : Nat} {c : Cu} (h : Sc w wr b bc p0 c) (n : Nat) : Sc w (wr.drewN n) b bc p0 c := by
  obtain ⟨v, out, h1, h2, h3, h4⟩ := h.blk
  exact ⟨⟨v, out, h1.drewN n, h2.drewN n, h3, h4⟩, h.cur.drewN n, only_drewN h.gr n, h.hb, h.ne, h.le⟩
/-- append of a byte to a slice of the call's own, whatever else has changed. -/
theorem run_appG {w : World} (B : Nat) (v : Value) (l : List UInt8) (n : Int) (hown : Own w B v l) (hB : B ≤ w.heap.size) (h0 : 0 ≤ n) (h1 : n ≤ 255) (hsz : l.length + 1 ≤ 140737488355328) (ty : TypeId) :
    ∃ v' w', (Builtin.append_ #[40, 40] ty #[v, .slice (some ⟨w.heap.size, 0, none⟩) 1 1]).run Try.prog (w.alloc (.cells #[.int .u8 n] 5)) = .ok v' w' ∧ Own w' B v' (l ++ [bt n]) ∧ w.grownBy w' v.ownBlock := by
  obtain ⟨i0, hi, hz0, hz1, hz2⟩ := info_parts info_u8
  obtain ⟨v', w', hr, h2, h3, _⟩ := run_append_own (P := Try.prog) (w := w.alloc (.cells #[.int .u8 n] 5)) B 40 ty 5 i0 _ 1 1 und_bytes hi hz0 hz1 hz2 rfl (by omega) v l.length (b8s l) (hown.alloc _) ⟨w.heap.size, 0, none⟩ 1 1 (b8s [bt n]) rfl (cell_new1 w n _ h0 h1) (b8s_one _)
    (by unfold maxLen; omega) (by omega) (by simp; omega)
  refine ⟨v', w', hr, ?_, only_trans (only_alloc ⟨rfl, rfl, rfl, Nat.le_refl _, fun _ _ _ => rfl⟩ _) h3⟩
  unfold Own
  rw [b8s_append, List.length_append]
  exact h2
def dgB (c : Cu) : Bool := c.peeks && isD c.peek
set_option maxRecDepth 100000 in
theorem digit_any {w wr : World} {b bc p0 : Nat} {c : Cu} (hS : Sc w wr b bc p0 c) (hf : c.fit) :
    Calls Try.prog 41 #[ptr b] wr fun e w' => e = .returned (.bool (dgB c)) ∧ ∃ n, wr.drewN n = w' := by
  have hc0 := hS.cells
  have HC := hid hS.cur
  have hp0 : 0 ≤ c.peek ∧ c.peek ≤ 255 := by
    unfold Cu.peek
    split
    · exact ⟨byteAt_lo _ _, byteAt_hi _ _⟩
    · omega
  have HD := hid (show dgB c = (c.peeks && decide (48 ≤ c.peek ∧ c.peek ≤ 57)) from rfl)
  obtain ⟨k, hk⟩ : ∃ k, c.peek = k := ⟨_, rfl⟩
  obtain ⟨q, hq⟩ : ∃ q, c.peeks = q := ⟨_, rfl⟩
  rw [hk] at hp0
  have HK := hid hk
  have HQ := hid hq
  rw [hk, hq] at HD
  clear hk hq hS
  cases q with
  | false =>
    have HD' := hid (show dgB c = false by rw [HD.out]; rfl)
    clear HD
    go_enter Try.func41, Try.ntmps41
    go_wp2_with fail
    refine (peek_any bc c _ HC.out hf).mono ?_; rintro e w' ⟨rfl, n, rfl⟩
    rw [HK.out, HQ.out]
    go_wp2_with fail
    go_ret
    exact ⟨by rw [HD'.out]; rfl, n, rfl⟩
  | true =>
    by_cases h1 : 48 ≤ k
    · by_cases h2 : k ≤ 57
      · have HD' := hid (show dgB c = true by rw [HD.out, decide_eq_true ⟨h1, h2⟩]; rfl)
        clear HD
        go_enter Try.func41, Try.ntmps41
        go_wp2_with fail
        refine (peek_any bc c _ HC.out hf).mono ?_; rintro e w' ⟨rfl, n, rfl⟩
        rw [HK.out, HQ.out]
        go_wp2_with fail
        go_ret
        exact ⟨by rw [HD'.out]; rfl, n, rfl⟩
      · have HD' := hid (show dgB c = false by rw [HD.out, decide_eq_false (fun h => h2 h.2)]; rfl)
        clear HD
        go_enter Try.func41, Try.ntmps41
        go_wp2_with fail
        refine (peek_any bc c _ HC.out hf).mono ?_; rintro e w' ⟨rfl, n, rfl⟩
        rw [HK.out, HQ.out]
        go_wp2_with fail
        go_ret
        exact ⟨by rw [HD'.out]; show Ending.returned (.bool (decide (k ≤ 57))) = _; rw [decide_eq_false (by omega)], n, rfl⟩
    · have HD' := hid (show dgB c = false by rw [HD.out, decide_eq_false (fun h => h1 h.1)]; rfl)
      clear HD
      go_enter Try.func41, Try.ntmps41
      go_wp2_with fail
      refine (peek_any bc c _ HC.out hf).mono ?_; rintro e w' ⟨rfl, n, rfl⟩
      rw [HK.out, HQ.out]
      go_wp2_with fail
      go_ret
      exact ⟨by rw [HD'.out]; rfl, n, rfl⟩
/-- What holds while a byte is taken: behind nothing, behind the byte, behind its slice, behind append. -/
structure TakeB (wr : World) (b bc : Nat) (v : Value) (u : World) : Prop where
  blk : Blk u b 42 #[ptr bc, v]
  gr : wr.grownBy u (some bc)
def TakeS (w wr : World) (b bc p0 : Nat) (c : Cu) (v : Value) (out : List UInt8) (y : Int) : List Value → World → Prop
  | [], u => TakeB wr b bc v u ∧ CurAt u bc c
  | [x], u => TakeB wr b bc v u ∧ x = .int .u8 y ∧ CurAt u bc { c with pos := c.pos + 1 }
  | [x, s], u => TakeB wr b bc v u ∧ x = .int .u8 y ∧ CurAt u bc { c with pos := c.pos + 1 } ∧ ∃ u0, u = u0.alloc (.cells #[.int .u8 y] 5) ∧ s = .slice (some ⟨u0.heap.size, 0, none⟩) 1 1 ∧ Own u0 w.heap.size v out ∧ CurAt u0 bc { c with pos := c.pos + 1 } ∧ w.grownBy u0 (some bc) ∧ Blk u0 b 42 #[ptr bc, v]
  | [x, s, q], u => Blk u b 42 #[ptr bc, v] ∧ CurAt u bc { c with pos := c.pos + 1 } ∧ Own u w.heap.size q (out ++ [bt y]) ∧ w.grownBy u (some bc)
  | _, _ => False
theorem CurAt.grown' {w w' : World} {b : Nat} {c : Cu} {row : Option Nat} (h : CurAt w b c) (hg : w.grownBy w' row) (hne : some b ≠ row) : CurAt w' b c := Blk.grown h hg hne
theorem grow_row {a w w' : World} {g : Nat} {row : Option Nat} (h : a.grownBy w (some g)) (k : w.grownBy w' row) (hr : ∀ b, row = some b → a.heap.size ≤ b) : a.grownBy w' (some g) :=
  ⟨k.os.trans h.os, k.tape.trans h.tape, k.output.trans h.output, Nat.le_trans h.size k.size, fun i hi hn => (k.block i (Nat.lt_of_lt_of_le hi h.size) (fun e => by have := hr i e.symm; omega)).trans (h.block i hi hn)⟩
theorem own_set {w : World} {B b i : Nat} {v : Value} {l : List UInt8} (h : Own w B v l) (hne : v.ownBlock ≠ some b) (u : Value) : Own (w.setCell ⟨b, i, none⟩ u) B v l :=
  own_grown h (only_setCell ⟨rfl, rfl, rfl, Nat.le_refl _, fun _ _ _ => rfl⟩ (.inl rfl) u) hne
theorem takeS_blk {w wr : World} {b bc p0 : Nat} {c : Cu} {v : Value} {out : List UInt8} {y : Int} {X : List Value} {u : World} (h : TakeS w wr b bc p0 c v out y X u) : Blk u b 42 #[ptr bc, v] := by
  match X, h with
  | [], h => exact h.1.blk
  | [_], h => exact h.1.blk
  | [_, _], h => exact h.1.blk
  | [_, _, _], h => exact h.1
set_option maxRecDepth 100000 in
set_option maxHeartbeats 1000000 in
theorem take_any {w wr : World} {b bc p0 : Nat} {c : Cu} (hS : Sc w wr b bc p0 c) (hf : c.fit) (h0 : c.code = 0) (hlt : c.pos < c.en) (hsm : c.s.length ≤ 1000000) :
    Calls Try.prog 40 #[ptr b] wr fun e w' => e = .returned (.tuple #[]) ∧ Sc w w' b bc p0 { c with pos := c.pos + 1 } := by
  obtain ⟨v, out, hB, hO, hl, ho⟩ := hS.blk
  obtain ⟨t1, t2⟩ := Cu.take_ok h0 hlt
  have HC := hid hS.cur
  have HT := hid t1
  have HY := hid t2
  have HO := hid hO
  have HB := hid hB
  have HLO := hid ho
  have hbe := hS.hb
  have HG := hid hS.gr
  have HNE := hid hS.ne
  have HLE := hid hS.le
  have hyb : 0 ≤ c.byte ∧ c.byte ≤ 255 := by rw [t2]; exact ⟨byteAt_lo _ _, byteAt_hi _ _⟩
  obtain ⟨y, hy⟩ : ∃ y, c.byte = y := ⟨_, rfl⟩
  have EY := hid hy
  rw [hy] at hyb
  have h2 := hf.le2
  have h3 := hf.le3
  clear hB hO ho t1 t2 hy hS
  go_enter Try.func40, Try.ntmps40
  go_wp2_with fail
  refine region_chain (TakeS w wr b bc p0 c v out y) [11, 12, 13] 12 (by kernel_rfl) (by kernel_rfl) ⟨⟨HB.out.drew, only_drew ⟨rfl, rfl, rfl, Nat.le_refl _, fun _ _ _ => rfl⟩⟩, HC.out.drew⟩ ?_
  simp only [List.take_succ_cons, List.take_zero, List.drop_succ_cons, List.drop_zero]
  repeat (first
    | (refine ch_off (by decide) (by rfl) ?_; try simp only [Act.put, List.setIfInBounds_toArray, List.set_cons_zero, List.set_cons_succ])
    | (refine ch_pure (v := ?_) (by decide) (by rfl) ?_ ?_; rotate_left; (focus (intro u; go_simp; with_reducible rfl)); try simp only [Act.put, List.setIfInBounds_toArray, List.set_cons_zero, List.set_cons_succ]))
  refine ch_load (v := v) 40 (.tmp 5) rfl (by decide) (by rfl) (fun X u k => by have q : u.cell? ⟨b, 1, none⟩ = some v := (takeS_blk k).cell 1; go_simp) ?_
  try simp only [Act.put, List.setIfInBounds_toArray, List.set_cons_zero, List.set_cons_succ]
  repeat (first
    | (refine ch_off (by decide) (by rfl) ?_; try simp only [Act.put, List.setIfInBounds_toArray, List.set_cons_zero, List.set_cons_succ])
    | (refine ch_pure (v := ?_) (by decide) (by rfl) ?_ ?_; rotate_left; (focus (intro u; go_simp; with_reducible rfl)); try simp only [Act.put, List.setIfInBounds_toArray, List.set_cons_zero, List.set_cons_succ]))
  refine ch_load (v := ptr bc) 29 (.tmp 9) rfl (by decide) (by rfl) (fun X u k => by have q : u.cell? ⟨b, 0, none⟩ = some (ptr bc) := (takeS_blk k).cell 0; go_simp) ?_
  try simp only [Act.put, List.setIfInBounds_toArray, List.set_cons_zero, List.set_cons_succ]
  refine ch_make0 ⟨11, rfl, rfl⟩ (by rfl) (fun u k => ?_) ?_
  · refine chainEnd_enter (by go_simp) ((byte_any bc c u k.2 hf).mono ?_)
    rintro e u' ⟨rfl, hc1, hg1⟩
    rw [HT.out] at hc1
    exact ⟨_, rfl, ⟨k.1.blk.grown hg1 (by simpa using HNE.out), only_trans k.1.gr hg1⟩, by rw [EY.out], hc1⟩
  refine ch_make1 ⟨12, rfl, rfl⟩ (fun _ => by rfl) (fun x u k => ?_) ?_
  · obtain ⟨k1, rfl, k3⟩ := k
    refine chainEnd_value (u := .slice (some ⟨u.heap.size, 0, none⟩) 1 1) (w := u.alloc (.cells #[.int .u8 y] 5)) (by simp only [famC, Act.put, List.setIfInBounds_toArray, List.set_cons_zero, List.set_cons_succ]; go_simp) ?_
    exact ⟨⟨k1.blk.alloc _, only_alloc k1.gr _⟩, rfl, k3.alloc _, u, rfl, rfl, own_grown HO.out k1.gr (cur_scan_ne HC.out HO.out), k3, only_trans HG.out k1.gr, k1.blk⟩
  refine ch_make2 ⟨13, rfl, rfl⟩ (fun _ _ => by rfl) (fun x s u k => ?_) ?_
  · obtain ⟨k1, rfl, k3, u0, rfl, rfl, k4, k5, k6, k7⟩ := k
    have hsb : v.ownBlock ≠ some b := own_blk_ne (t := 42) k4 k7 (by decide)
    have hcu : CurAt u0 bc { c with pos := c.pos + 1 } := k5
    have hu0 : w.heap.size ≤ u0.heap.size := k6.size
    obtain ⟨q, u', hr, ho2, hg2⟩ := run_appG (w := u0) w.heap.size v out y k4 hu0 hyb.1 hyb.2 (by omega) 40
    have hvb : v.ownBlock ≠ some bc := cur_scan_ne HC.out HO.out
    refine chainEnd_value (u := q) (w := u') (by simp only [famC, Act.put, List.setIfInBounds_toArray, List.set_cons_zero, List.set_cons_succ]; simp [execOp, resolve, invoke, builtin, Act.eval, hr, Result.andThen]) ?_
    refine ⟨k7.grown hg2 (Ne.symm hsb), hcu.grown' hg2 (Ne.symm hvb), ho2, grow_row k6 hg2 (fun g hg => (World.ownsRow.lt k4 g hg).1)⟩
  refine ch_nil (fun X u hX k => ?_)
  match X, hX with
  | [x, s, q], _ =>
    obtain ⟨k1, k2, k3, k4⟩ := k
    obtain ⟨gq, capq, rfl, _, _⟩ := World.ownsRow.form k3 (by simp)
    rw [show (out ++ [bt y]).length = out.length + 1 by simp] at k3
    have g0 : u.cell? ⟨b, 1, none⟩ = some v := k1.cell 1
    have g1 : u.frozen? ⟨b, 1, none⟩ = false := k1.frozen 1
    have hB2 := k1.set_ 1 (.slice (some ⟨gq, 0, none⟩) (out.length + 1) capq)
    have hC2 : CurAt (u.setCell ⟨b, 1, none⟩ (.slice (some ⟨gq, 0, none⟩) (out.length + 1) capq)) bc { c with pos := c.pos + 1 } := k2.far (p := ⟨b, 1, none⟩) (Ne.symm HNE.out) _
    have hO2 : Own (u.setCell ⟨b, 1, none⟩ (.slice (some ⟨gq, 0, none⟩) (out.length + 1) capq)) w.heap.size (.slice (some ⟨gq, 0, none⟩) (out.length + 1) capq) (out ++ [bt y]) := own_set k3 (own_blk_ne (t := 42) k3 k1 (by decide)) _
    have hG2 : w.grownBy (u.setCell ⟨b, 1, none⟩ (.slice (some ⟨gq, 0, none⟩) (out.length + 1) capq)) (some bc) := only_setCell k4 (.inr hbe) _
    have HB2 := hid hB2
    have HC2 := hid hC2
    have HO2 := hid hO2
    have HG2 := hid hG2
    clear hB2 hC2 hO2 hG2 k1 k2 k3 k4
    simp only [famC, Act.put, List.setIfInBounds_toArray, List.set_cons_zero, List.set_cons_succ]
    go_wp2_with fail
    go_end0
    refine ⟨rfl, ⟨_, out ++ [bt y], HB2.out, HO2.out, by simp; omega, fun _ => ?_⟩, HC2.out, HG2.out, hbe, HNE.out, by have := HLE.out; show p0 ≤ c.pos + 1; omega⟩
    show out ++ [bt y] = seg c.s p0 (c.pos + 1)
    rw [seg_snoc c.s p0 c.pos HLE.out (by omega), HLO.out h0, ← EY.out, HY.out]
end Go.Proofs.Ytgfdmdikiickpaa
