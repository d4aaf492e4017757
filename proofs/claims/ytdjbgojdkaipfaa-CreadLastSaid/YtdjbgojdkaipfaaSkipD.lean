/-
  Walks of package cskip: a value of any kind.
-/
import Derived.Test.YtdjbgojdkaipfaaSkipC
namespace Go.Proofs.Ytdjbgojdkaipfaa
open Go.RowKit

set_option maxRecDepth 100000 in
theorem held_deep (b : Nat) (c : Cu) (deep : Int) (f : Value) (w : World) (hc : CurAt w b c) (hf : c.fit) (hd : 32 ≤ deep) :
    Calls Try.prog 154 #[Kv b, f, .int .i64 deep] w fun e w' => KPost (fun _ => (33, 0)) b c w e w' := by
  have hB := Bx.new hc
  have h0 := hB.cell
  have HB := hid hB
  clear hc hB
  unfold Kv
  go_enter Try.func154, Try.ntmps154
  go_wp2_with fail
  refine (fail_any b c 33 _ HB.out.cur).mono ?_; rintro e w1 ⟨rfl, hc1, hg1⟩
  have HB1 := hid (HB.out.move hc1 hg1)
  clear hc1 hg1
  go_wp2_with fail
  go_end0
  exact KPost.mk (RdF.fail 33 (by decide) hf) HB1.out
set_option maxRecDepth 100000 in
set_option maxHeartbeats 1000000 in
theorem held_list {n : Nat} (hi : InOk n) (b : Nat) (c : Cu) (deep : Int) (w : World) (hc : CurAt w b c) (hf : c.fit) (d0 : 0 ≤ deep) (hn : (32 - (deep + 1)).toNat = n) (hd : deep < 32) :
    Calls Try.prog 154 #[Kv b, .func (.func 155) #[] #[], .int .i64 deep] w fun e w' => KPost (listsR (skipV n)) b c w e w' := by
  have hB := Bx.new hc
  have h0 := hB.cell
  have HB := hid hB
  have HI := hid hi
  have HN := hid hn
  clear hc hB hi hn
  unfold Kv
  go_enter Try.func154, Try.ntmps154
  go_wp2_with fail
  refine (list_of HI.out b c deep _ HB.out.cur hf d0 (by omega) HN.out).mono ?_; rintro e w1 ⟨c1, rfl, hr1, hc1, hg1⟩
  have HB1 := hid (HB.out.move hc1 hg1)
  have HR1 := hid hr1
  clear hc1 hg1 hr1
  go_wp2_with fail
  go_end0
  exact KPost.mk HR1.out HB1.out
set_option maxRecDepth 100000 in
set_option maxHeartbeats 1000000 in
theorem held_entries {n : Nat} (hi : InOk n) (b : Nat) (c : Cu) (deep : Int) (w : World) (hc : CurAt w b c) (hf : c.fit) (d0 : 0 ≤ deep) (hn : (32 - (deep + 1)).toNat = n) (hd : deep < 32) :
    Calls Try.prog 154 #[Kv b, .func (.func 156) #[] #[], .int .i64 deep] w fun e w' => KPost (mapsR (skipV n)) b c w e w' := by
  have hB := Bx.new hc
  have h0 := hB.cell
  have HB := hid hB
  have HI := hid hi
  have HN := hid hn
  clear hc hB hi hn
  unfold Kv
  go_enter Try.func154, Try.ntmps154
  go_wp2_with fail
  refine (entries_of HI.out b c deep _ HB.out.cur hf d0 (by omega) HN.out).mono ?_; rintro e w1 ⟨c1, rfl, hr1, hc1, hg1⟩
  have HB1 := hid (HB.out.move hc1 hg1)
  have HR1 := hid hr1
  clear hc1 hg1 hr1
  go_wp2_with fail
  go_end0
  exact KPost.mk HR1.out HB1.out
set_option maxRecDepth 100000 in
set_option maxHeartbeats 1000000 in
theorem held_fields {n : Nat} (hi : ValOk n) (b : Nat) (c : Cu) (deep : Int) (w : World) (hc : CurAt w b c) (hf : c.fit) (d0 : 0 ≤ deep) (hn : (32 - (deep + 1)).toNat = n) (hd : deep < 32) :
    Calls Try.prog 154 #[Kv b, .func (.func 157) #[] #[], .int .i64 deep] w fun e w' => KPost (structR (skipV n)) b c w e w' := by
  have hB := Bx.new hc
  have h0 := hB.cell
  have HB := hid hB
  have HI := hid hi
  have HN := hid hn
  clear hc hB hi hn
  unfold Kv
  go_enter Try.func154, Try.ntmps154
  go_wp2_with fail
  refine (fields_of HI.out b c deep _ HB.out.cur hf d0 (by omega) HN.out).mono ?_; rintro e w1 ⟨c1, rfl, hr1, hc1, hg1⟩
  have HB1 := hid (HB.out.move hc1 hg1)
  have HR1 := hid hr1
  clear hc1 hg1 hr1
  go_wp2_with fail
  go_end0
  exact KPost.mk HR1.out HB1.out
/-- The contract of 'held' where a value is so deep. -/
def HeldOk (h : Int → List UInt8 → Int × Nat) (deep : Int) : Prop := ∀ (b : Nat) (c : Cu) (w : World), CurAt w b c → c.fit →
  (Calls Try.prog 154 #[Kv b, .func (.func 155) #[] #[], .int .i64 deep] w fun e w' => KPost (h 9) b c w e w') ∧
  (Calls Try.prog 154 #[Kv b, .func (.func 156) #[] #[], .int .i64 deep] w fun e w' => KPost (h 11) b c w e w') ∧
  (Calls Try.prog 154 #[Kv b, .func (.func 157) #[] #[], .int .i64 deep] w fun e w' => KPost (h 12) b c w e w')
theorem flat_held (h : Int → List UInt8 → Int × Nat) (k : Int) (h0 : 9 ≤ k) (h1 : k ≤ 12) : flatR h k = h k := by
  funext a
  unfold flatR
  rw [if_neg (by omega), if_neg (by omega), if_neg (by omega), if_neg (by omega), if_neg (by omega), if_pos ⟨h0, h1⟩]
theorem flat_else (h : Int → List UInt8 → Int × Nat) (k : Int) (hk : ¬ (1 ≤ k ∧ k ≤ 12)) : flatR h k = fun _ => (7, 0) := by
  funext a
  unfold flatR
  rw [if_neg (by omega), if_neg (by omega), if_neg (by omega), if_neg (by omega), if_neg (by omega), if_neg (by omega)]
theorem flat_var (h : Int → List UInt8 → Int × Nat) (k : Int) (h0 : 4 ≤ k) (h1 : k ≤ 6) : flatR h k = varR := by
  funext a
  unfold flatR
  rw [if_neg (by omega), if_neg (by omega), if_pos ⟨h0, h1⟩]
set_option maxRecDepth 100000 in
set_option maxHeartbeats 4000000 in
theorem value_of {h : Int → List UInt8 → Int × Nat} {deep : Int} (hh : HeldOk h deep) (h10 : h 10 = h 9) (b : Nat) (c : Cu) (kind : Int) (w : World) (hc : CurAt w b c) (hf : c.fit) (k0 : 0 ≤ kind) (k1 : kind ≤ 255) :
    Calls Try.prog 127 #[Kv b, .int .u8 kind, .int .i64 deep] w fun e w' => KPost (flatR h kind) b c w e w' := by
  have hB := Bx.new hc
  have h0 := hB.cell
  have HB := hid hB
  have HH := hid hh
  have H10 := hid h10
  clear hc hB hh h10
  unfold Kv
  by_cases hk : 1 ≤ kind ∧ kind ≤ 12
  case neg =>
    have HR := hid (flat_else h kind hk)
    have q1 : (kind == 1) = false := by rw [beq_eq_false_iff_ne]; omega
    have q2 : (kind == 2) = false := by rw [beq_eq_false_iff_ne]; omega
    have q3 : (kind == 3) = false := by rw [beq_eq_false_iff_ne]; omega
    have q4 : (kind == 4) = false := by rw [beq_eq_false_iff_ne]; omega
    have q5 : (kind == 5) = false := by rw [beq_eq_false_iff_ne]; omega
    have q6 : (kind == 6) = false := by rw [beq_eq_false_iff_ne]; omega
    have q7 : (kind == 7) = false := by rw [beq_eq_false_iff_ne]; omega
    have q8 : (kind == 8) = false := by rw [beq_eq_false_iff_ne]; omega
    have q9 : (kind == 9) = false := by rw [beq_eq_false_iff_ne]; omega
    have q10 : (kind == 10) = false := by rw [beq_eq_false_iff_ne]; omega
    have q11 : (kind == 11) = false := by rw [beq_eq_false_iff_ne]; omega
    have q12 : (kind == 12) = false := by rw [beq_eq_false_iff_ne]; omega
    clear hk
    go_enter Try.func127, Try.ntmps127
    go_wp2_with fail
    refine (fail_any b c 7 _ HB.out.cur).mono ?_; rintro e w1 ⟨rfl, hc1, hg1⟩
    have HB1 := hid (HB.out.move hc1 hg1)
    clear hc1 hg1
    go_wp2_with fail
    go_end0
    exact KPost.mk (by rw [HR.out]; exact RdF.fail 7 (by decide) hf) HB1.out
  obtain rfl | rfl | rfl | rfl | rfl | rfl | rfl | rfl | rfl | rfl | rfl | rfl : kind = 1 ∨ kind = 2 ∨ kind = 3 ∨ kind = 4 ∨ kind = 5 ∨ kind = 6 ∨ kind = 7 ∨ kind = 8 ∨ kind = 9 ∨ kind = 10 ∨ kind = 11 ∨ kind = 12 := by omega
  · go_enter Try.func127, Try.ntmps127
    go_wp2_with fail
    go_end0
    exact KPost.mk (RdF.nil hf) HB.out
  · go_enter Try.func127, Try.ntmps127
    go_wp2_with fail
    go_end0
    exact KPost.mk (RdF.nil hf) HB.out
  · go_enter Try.func127, Try.ntmps127
    go_wp2_with fail
    refine (byte_any b c _ HB.out.cur hf).mono ?_; rintro e w1 ⟨rfl, hc1, hg1⟩
    have HB1 := hid (HB.out.move hc1 hg1)
    clear hc1 hg1
    go_wp2_with fail
    go_end0
    exact KPost.mk (show RdF (takeR 1) c (c.take ((1 : Nat) : Int)) from rd_take 1 hf) HB1.out
  · go_enter Try.func127, Try.ntmps127
    go_wp2_with fail
    refine (vread_any b c _ HB.out.cur hf).mono ?_; rintro e w1 ⟨c1, u, rfl, hv1, hc1, hg1⟩
    have HB1 := hid (HB.out.move hc1 hg1)
    have HR1 := hid (rd_var hv1)
    clear hc1 hg1 hv1
    go_wp2_with fail
    go_end0
    exact KPost.mk (by rw [flat_var h 4 (by decide) (by decide)]; exact HR1.out) HB1.out
  · go_enter Try.func127, Try.ntmps127
    go_wp2_with fail
    refine (vread_any b c _ HB.out.cur hf).mono ?_; rintro e w1 ⟨c1, u, rfl, hv1, hc1, hg1⟩
    have HB1 := hid (HB.out.move hc1 hg1)
    have HR1 := hid (rd_var hv1)
    clear hc1 hg1 hv1
    go_wp2_with fail
    go_end0
    exact KPost.mk (by rw [flat_var h 5 (by decide) (by decide)]; exact HR1.out) HB1.out
  · go_enter Try.func127, Try.ntmps127
    go_wp2_with fail
    refine (vread_any b c _ HB.out.cur hf).mono ?_; rintro e w1 ⟨c1, u, rfl, hv1, hc1, hg1⟩
    have HB1 := hid (HB.out.move hc1 hg1)
    have HR1 := hid (rd_var hv1)
    clear hc1 hg1 hv1
    go_wp2_with fail
    go_end0
    exact KPost.mk (by rw [flat_var h 6 (by decide) (by decide)]; exact HR1.out) HB1.out
  · go_enter Try.func127, Try.ntmps127
    go_wp2_with fail
    refine (take_any b c 8 _ HB.out.cur hf (by decide) (by decide)).mono ?_; rintro e w1 ⟨rfl, hc1, hg1⟩
    have HB1 := hid (HB.out.move hc1 hg1)
    clear hc1 hg1
    go_wp2_with fail
    go_end0
    exact KPost.mk (show RdF (takeR 8) c (c.take ((8 : Nat) : Int)) from rd_take 8 hf) HB1.out
  · go_enter Try.func127, Try.ntmps127
    go_wp2_with fail
    refine (text_any b c deep _ HB.out.cur hf).mono ?_; rintro e w1 ⟨c1, rfl, hr1, hc1, hg1⟩
    have HB1 := hid (HB.out.move hc1 hg1)
    have HR1 := hid hr1
    clear hc1 hg1 hr1
    go_wp2_with fail
    go_end0
    exact KPost.mk (show RdF textR c c1 from HR1.out) HB1.out
  · go_enter Try.func127, Try.ntmps127
    go_wp2_with fail
    refine ((HH.out b c _ HB.out.cur hf).1).mono ?_; rintro e w1 ⟨c1, rfl, hr1, hc1, hg1⟩
    have HB1 := hid (HB.out.move hc1 hg1)
    have HR1 := hid hr1
    clear hc1 hg1 hr1
    go_wp2_with fail
    go_end0
    exact KPost.mk (by rw [flat_held h 9 (by decide) (by decide)]; exact HR1.out) HB1.out
  · go_enter Try.func127, Try.ntmps127
    go_wp2_with fail
    refine ((HH.out b c _ HB.out.cur hf).1).mono ?_; rintro e w1 ⟨c1, rfl, hr1, hc1, hg1⟩
    have HB1 := hid (HB.out.move hc1 hg1)
    have HR1 := hid hr1
    clear hc1 hg1 hr1
    go_wp2_with fail
    go_end0
    exact KPost.mk (by rw [flat_held h 10 (by decide) (by decide), H10.out]; exact HR1.out) HB1.out
  · go_enter Try.func127, Try.ntmps127
    go_wp2_with fail
    refine ((HH.out b c _ HB.out.cur hf).2.1).mono ?_; rintro e w1 ⟨c1, rfl, hr1, hc1, hg1⟩
    have HB1 := hid (HB.out.move hc1 hg1)
    have HR1 := hid hr1
    clear hc1 hg1 hr1
    go_wp2_with fail
    go_end0
    exact KPost.mk (by rw [flat_held h 11 (by decide) (by decide)]; exact HR1.out) HB1.out
  · go_enter Try.func127, Try.ntmps127
    go_wp2_with fail
    refine ((HH.out b c _ HB.out.cur hf).2.2).mono ?_; rintro e w1 ⟨c1, rfl, hr1, hc1, hg1⟩
    have HB1 := hid (HB.out.move hc1 hg1)
    have HR1 := hid hr1
    clear hc1 hg1 hr1
    go_wp2_with fail
    go_end0
    exact KPost.mk (by rw [flat_held h 12 (by decide) (by decide)]; exact HR1.out) HB1.out
theorem value_any : ∀ n, ValOk n := by
  intro n
  induction n with
  | zero =>
    intro b c kind deep w hc hf k0 k1 d0 d1 hn
    have hd : 32 ≤ deep := by omega
    exact value_of (h := fun _ _ => (33, 0)) (fun b c w hc hf => ⟨held_deep b c deep _ w hc hf hd, held_deep b c deep _ w hc hf hd, held_deep b c deep _ w hc hf hd⟩) rfl b c kind w hc hf k0 k1
  | succ n ih =>
    intro b c kind deep w hc hf k0 k1 d0 d1 hn
    have hd : deep < 32 := by omega
    have hn' : (32 - (deep + 1)).toNat = n := by omega
    have e9 : heldR (skipV n) 9 = listsR (skipV n) := rfl
    have e10 : heldR (skipV n) 10 = listsR (skipV n) := rfl
    have e11 : heldR (skipV n) 11 = mapsR (skipV n) := rfl
    have e12 : heldR (skipV n) 12 = structR (skipV n) := rfl
    exact value_of (h := heldR (skipV n)) (fun b c w hc hf => ⟨by rw [e9]; exact held_list (inner_of ih) b c deep w hc hf d0 hn' hd, by rw [e11]; exact held_entries (inner_of ih) b c deep w hc hf d0 hn' hd, by rw [e12]; exact held_fields ih b c deep w hc hf d0 hn' hd⟩) (by rw [e9, e10]) b c kind w hc hf k0 k1
theorem inner_any (n : Nat) : InOk n := inner_of (value_any n)
set_option maxRecDepth 100000 in
theorem pValue_any (b : Nat) (c : Cu) (kind deep : Int) (w : World) (hc : CurAt w b c) (hf : c.fit) (k0 : 0 ≤ kind) (k1 : kind ≤ 255) (d0 : 0 ≤ deep) (d1 : deep ≤ 1000) :
    Calls Try.prog 73 #[ptr b, .int .u8 kind, .int .i64 deep] w fun e w' => KPost (skipV (32 - deep).toNat kind) b c w e w' := by
  have HC := hid hc
  clear hc
  go_enter Try.func73, Try.ntmps73
  go_wp2_with fail
  refine (value_any _ b c kind deep _ HC.out hf k0 k1 d0 d1 rfl).mono ?_; rintro e w1 ⟨c1, rfl, hr1, hc1, hg1⟩
  have HR1 := hid hr1
  have HC1 := hid hc1
  clear hc1 hr1
  go_wp2_with fail
  go_end0
  exact ⟨c1, rfl, HR1.out, HC1.out, hg1⟩
set_option maxRecDepth 100000 in
theorem pInner_any (b : Nat) (c : Cu) (kind deep : Int) (w : World) (hc : CurAt w b c) (hf : c.fit) (k0 : 0 ≤ kind) (k1 : kind ≤ 255) (d0 : 0 ≤ deep) (d1 : deep ≤ 1000) :
    Calls Try.prog 76 #[ptr b, .int .u8 kind, .int .i64 deep] w fun e w' => KPost (innerR (skipV (32 - deep).toNat) kind) b c w e w' := by
  have HC := hid hc
  clear hc
  go_enter Try.func76, Try.ntmps76
  go_wp2_with fail
  refine (inner_any _ b c kind deep _ HC.out hf k0 k1 d0 d1 rfl).mono ?_; rintro e w1 ⟨c1, rfl, hr1, hc1, hg1⟩
  have HR1 := hid hr1
  have HC1 := hid hc1
  clear hc1 hr1
  go_wp2_with fail
  go_end0
  exact ⟨c1, rfl, HR1.out, HC1.out, hg1⟩
end Go.Proofs.Ytdjbgojdkaipfaa
