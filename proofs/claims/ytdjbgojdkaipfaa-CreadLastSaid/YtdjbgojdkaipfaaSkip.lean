/-
  Walks of package cskip: what holds nothing within it.
-/
import Derived.Test.YtdjbgojdkaipfaaPSkip
namespace Go.Proofs.Ytdjbgojdkaipfaa
open Go.RowKit

/-- A skipper by value. -/
def Kv (b : Nat) : Value := .agg #[.pointer (some ⟨b, 0, none⟩)]
def KPost (R : List UInt8 → Int × Nat) (b : Nat) (c : Cu) (w : World) (e : Ending) (w' : World) : Prop :=
  ∃ c', e = .returned (.tuple #[]) ∧ RdF R c c' ∧ CurAt w' b c' ∧ w.grownBy w' (some b)
/-- The skipper in a box of the call's own. -/
structure Bx (w wr : World) (b : Nat) (c : Cu) : Prop where
  box : Blk wr w.heap.size 171 #[.pointer (some ⟨b, 0, none⟩)]
  cur : CurAt wr b c
  grow : w.grownBy wr (some b)
  lt : b < w.heap.size
section
variable {w wr w' : World} {b : Nat} {c c' : Cu}
theorem Bx.new (hc : CurAt w b c) : Bx w (w.alloc (.cells #[.pointer (some ⟨b, 0, none⟩)] 171)) b c :=
  ⟨Blk.new w _ _, Blk.alloc hc _, only_of_below (ext_alloc w _) _, hc.lt⟩
theorem Bx.move (h : Bx w wr b c) (hc : CurAt w' b c') (k : wr.grownBy w' (some b)) : Bx w w' b c' :=
  ⟨Blk.grown h.box k (by intro e; injection e with e; have := h.lt; omega), hc, only_trans h.grow k, h.lt⟩
theorem Bx.ext (h : Bx w wr b c) (k : Below wr.heap.size wr w') : Bx w w' b c := h.move (h.cur.ext k) (only_of_below k _)
theorem Bx.cell (h : Bx w wr b c) : wr.cell? ⟨w.heap.size, 0, none⟩ = some (.pointer (some ⟨b, 0, none⟩)) := h.box.cell 0
end
theorem KPost.mk {R : List UInt8 → Int × Nat} {b : Nat} {c c' : Cu} {w w' : World} (hr : RdF R c c') (h : Bx w w' b c') : KPost R b c w (.returned (.tuple #[])) w' :=
  ⟨c', rfl, hr, h.cur, h.grow⟩
set_option maxRecDepth 100000 in
theorem right_any (b : Nat) (c : Cu) (w : World) (hc : CurAt w b c) :
    Calls Try.prog 170 #[Kv b] w fun e w' => e = .returned (.bool (c.code == 0)) ∧ Below w.heap.size w w' := by
  have hB := Bx.new hc
  have h0 := hB.cell
  have HB := hid hB
  clear hc hB
  unfold Kv
  go_enter Try.func170, Try.ntmps170
  go_wp2_with fail
  refine (err_any b c _ HB.out.cur).mono ?_; rintro e w1 ⟨rfl, rfl⟩
  go_wp2_with fail
  go_ret
  exact ⟨rfl, ext_alloc w _⟩
set_option maxRecDepth 100000 in
set_option maxHeartbeats 1000000 in
theorem text_any (b : Nat) (c : Cu) (d : Int) (w : World) (hc : CurAt w b c) (hf : c.fit) :
    Calls Try.prog 153 #[Kv b, .int .i64 d] w fun e w' => KPost textR b c w e w' := by
  have hB := Bx.new hc
  have h0 := hB.cell
  have HB := hid hB
  clear hc hB
  unfold Kv
  by_cases hc0 : c.code = 0
  case neg =>
    have HC := hid hc0
    have hcf : (c.code == 0) = false := by simpa using hc0
    clear hc0
    go_enter Try.func153, Try.ntmps153
    go_wp2_with fail
    refine (vread_any b c _ HB.out.cur hf).mono ?_; rintro e w1 ⟨c2, u, rfl, hv, hc2, hg2⟩
    obtain ⟨rfl, rfl⟩ := hv.bad HC.out
    have HB1 := hid (HB.out.move hc2 hg2)
    have h1 := HB1.out.cell
    clear hv hc2 hg2 h0 HB
    go_wp2_with fail
    refine (right_any b _ _ HB1.out.cur).mono ?_; rintro e w2 ⟨rfl, hw2⟩
    have HB2 := hid (HB1.out.ext hw2)
    have h2 := HB2.out.cell
    clear hw2 h1 HB1
    go_wp2_with fail
    refine (take_any b _ 0 _ HB2.out.cur hf (by decide) (by decide)).mono ?_; rintro e w3 ⟨rfl, hc3, hg3⟩
    rw [Cu.take_bad HC.out] at hc3
    have HB3 := hid (HB2.out.move hc3 hg3)
    clear hc3 hg3 h2 HB2
    go_wp2_with fail
    go_end0
    exact KPost.mk (RdF.stay _ hf HC.out) HB3.out
  have HC := hid hc0
  by_cases hv0 : vcode c.ahead = 0
  case neg =>
    have HR := hid (show textR c.ahead = (vcode c.ahead, 0) by rw [textR, if_neg hv0])
    have HV := hid hv0
    clear hv0 hc0
    go_enter Try.func153, Try.ntmps153
    go_wp2_with fail
    refine (vread_any b c _ HB.out.cur hf).mono ?_; rintro e w1 ⟨c2, u, rfl, hv, hc2, hg2⟩
    have hrd := hid (rd_var hv)
    obtain ⟨e1, e2, _⟩ := hv.good HC.out
    have hf2 := hv.fit
    have huz : u = 0 := by rw [e2, vnum, if_neg HV.out]
    subst huz
    have hne : c2.code ≠ 0 := by rw [e1]; exact HV.out
    have hcf : (c2.code == 0) = false := by simpa using hne
    have HN := hid hne
    have HB1 := hid (HB.out.move hc2 hg2)
    have h1 := HB1.out.cell
    clear hv hc2 hg2 h0 HB e1 e2 hne
    go_wp2_with fail
    refine (right_any b _ _ HB1.out.cur).mono ?_; rintro e w2 ⟨rfl, hw2⟩
    have HB2 := hid (HB1.out.ext hw2)
    have h2 := HB2.out.cell
    clear hw2 h1 HB1
    go_wp2_with fail
    refine (take_any b _ 0 _ HB2.out.cur hf2 (by decide) (by decide)).mono ?_; rintro e w3 ⟨rfl, hc3, hg3⟩
    rw [Cu.take_bad HN.out] at hc3
    have HB3 := hid (HB2.out.move hc3 hg3)
    clear hc3 hg3 h2 HB2
    go_wp2_with fail
    go_end0
    exact KPost.mk (hrd.out.of_eq fun _ => by rw [HR.out]; exact ⟨rfl, fun hz => absurd hz HV.out⟩) HB3.out
  obtain ⟨u0, u1⟩ := vnum_bd c.ahead
  have hlv := vlen_le 10 c.ahead
  have hla := ahead_length hf
  have l1 := hf.le1
  have l2 := hf.le2
  have l3 := hf.le3
  have HV := hid hv0
  have hcode : (c.code == 0) = true := by simpa using hc0
  have HR0 := hid (show textR c.ahead = if ((c.ahead.length - vlen 10 c.ahead : Nat) : Int) < vnum c.ahead then (1, 0) else (0, vlen 10 c.ahead + (vnum c.ahead).toNat) by rw [textR, if_pos hv0])
  generalize hU : vnum c.ahead = U at u0 u1 HR0
  have HU := hid hU
  clear hv0 hc0 hU
  have hlf : ((c.en : Int) - (c.pos + vlen 10 c.ahead : Nat)) = ((c.ahead.length - vlen 10 c.ahead : Nat) : Int) := by omega
  by_cases hlt : ((c.ahead.length - vlen 10 c.ahead : Nat) : Int) < U
  · have HR := hid (show textR c.ahead = (1, 0) by rw [HR0.out, if_pos hlt])
    have hwl : IntKind.u64.wrap ((c.ahead.length - vlen 10 c.ahead : Nat) : Int) = ((c.ahead.length - vlen 10 c.ahead : Nat) : Int) := by rw [IntKind.wrap_u64]; omega
    have HLF := hid hlf
    generalize hX : ((c.ahead.length - vlen 10 c.ahead : Nat) : Int) = X at hlt hwl HLF
    clear HR0 hlf hX
    go_enter Try.func153, Try.ntmps153
    go_wp2_with fail
    refine (vread_any b c _ HB.out.cur hf).mono ?_; rintro e w1 ⟨c2, u, rfl, hv, hc2, hg2⟩
    obtain ⟨e1, e2, e3⟩ := hv.good HC.out
    have hf2 := hv.fit
    obtain rfl := e3 HV.out
    rw [e2, HU.out]
    have HB1 := hid (HB.out.move hc2 hg2)
    have h1 := HB1.out.cell
    clear hv hc2 hg2 h0 HB e1 e2 e3
    go_wp2_with fail
    refine (right_any b _ _ HB1.out.cur).mono ?_; rintro e w2 ⟨rfl, hw2⟩
    have HB2 := hid (HB1.out.ext hw2)
    have h2 := HB2.out.cell
    clear hw2 h1 HB1
    go_wp2_with fail
    refine (left_any_r b _ _ X HLF.out HB2.out.cur hf2).mono ?_; rintro e w3 ⟨rfl, n3, rfl⟩
    have HB3 := hid (HB2.out.ext (ext_drewN _ n3))
    have h3 := HB3.out.cell
    clear h2 HB2
    go_wp2_with fail
    refine (fail_any b _ 1 _ HB3.out.cur).mono ?_; rintro e w4 ⟨rfl, hc4, hg4⟩
    rw [fail_at _ HC.out] at hc4
    have HB4 := hid (HB3.out.move hc4 hg4)
    have h4 := HB4.out.cell
    clear h3 HB3 hc4 hg4
    go_wp2_with fail
    refine (take_any b _ _ _ HB4.out.cur ⟨hf2.le1, hf2.le2, hf2.le3⟩ (by unfold wrap64; omega) (by unfold wrap64; omega)).mono ?_; rintro e w5 ⟨rfl, hc5, hg5⟩
    rw [Cu.take_bad (by simp)] at hc5
    have HB5 := hid (HB4.out.move hc5 hg5)
    clear hc5 hg5 h4 HB4
    go_wp2_with fail
    go_end0
    exact KPost.mk (c' := { c with pos := c.pos + vlen 10 c.ahead, code := 1 }) ⟨rfl, rfl, ⟨hf2.le1, hf2.le2, hf2.le3⟩, fun h => absurd HC.out h, fun _ => by rw [HR.out]; exact ⟨rfl, fun hz => absurd hz (by decide)⟩⟩ HB5.out
  · have HR := hid (show textR c.ahead = (0, vlen 10 c.ahead + U.toNat) by rw [HR0.out, if_neg hlt])
    have hwl : IntKind.u64.wrap ((c.ahead.length - vlen 10 c.ahead : Nat) : Int) = ((c.ahead.length - vlen 10 c.ahead : Nat) : Int) := by rw [IntKind.wrap_u64]; omega
    have hwu : IntKind.i64.wrap U = U := by rw [IntKind.wrap_i64]; omega
    have hwu2 : wrap64 U = U := by unfold wrap64; omega
    have hu64 : U ≤ 9223372036854775807 := by omega
    have HLF := hid hlf
    have hk : ({ c with pos := c.pos + vlen 10 c.ahead } : Cu).take U = { c with pos := c.pos + (vlen 10 c.ahead + U.toNat) } := by
      have hw : ({ c with pos := c.pos + vlen 10 c.ahead } : Cu).why U = 0 := by
        unfold Cu.why
        rw [if_neg (by simpa using HC.out), if_neg (by omega), if_neg (by show ¬ ((c.en : Int) - (c.pos + vlen 10 c.ahead : Nat) < U); omega)]
      rw [Cu.take, hw, if_pos rfl]
      simp only [Nat.add_assoc]
    have HK := hid hk
    have hfit : ({ c with pos := c.pos + (vlen 10 c.ahead + U.toNat) } : Cu).fit := ⟨by show c.pos + (vlen 10 c.ahead + U.toNat) ≤ c.en; omega, l2, l3⟩
    generalize hX : ((c.ahead.length - vlen 10 c.ahead : Nat) : Int) = X at hlt hwl HLF
    clear HR0 hlf hX hk
    go_enter Try.func153, Try.ntmps153
    go_wp2_with fail
    refine (vread_any b c _ HB.out.cur hf).mono ?_; rintro e w1 ⟨c2, u, rfl, hv, hc2, hg2⟩
    obtain ⟨e1, e2, e3⟩ := hv.good HC.out
    have hf2 := hv.fit
    obtain rfl := e3 HV.out
    rw [e2, HU.out]
    have HB1 := hid (HB.out.move hc2 hg2)
    have h1 := HB1.out.cell
    clear hv hc2 hg2 h0 HB e1 e2 e3
    go_wp2_with fail
    refine (right_any b _ _ HB1.out.cur).mono ?_; rintro e w2 ⟨rfl, hw2⟩
    have HB2 := hid (HB1.out.ext hw2)
    have h2 := HB2.out.cell
    clear hw2 h1 HB1
    go_wp2_with fail
    refine (left_any_r b _ _ X HLF.out HB2.out.cur hf2).mono ?_; rintro e w3 ⟨rfl, n3, rfl⟩
    have HB3 := hid (HB2.out.ext (ext_drewN _ n3))
    have h3 := HB3.out.cell
    clear h2 HB2
    go_wp2_with fail
    refine (take_any b _ U _ HB3.out.cur hf2 (by omega) (by omega)).mono ?_; rintro e w5 ⟨rfl, hc5, hg5⟩
    rw [HK.out] at hc5
    have HB5 := hid (HB3.out.move hc5 hg5)
    clear hc5 hg5 h3 HB3
    go_wp2_with fail
    go_end0
    exact KPost.mk (c' := { c with pos := c.pos + (vlen 10 c.ahead + U.toNat) }) ⟨rfl, rfl, hfit, fun h => absurd HC.out h, fun _ => by rw [HR.out]; exact ⟨HC.out, fun _ => rfl⟩⟩ HB5.out
end Go.Proofs.Ytdjbgojdkaipfaa
