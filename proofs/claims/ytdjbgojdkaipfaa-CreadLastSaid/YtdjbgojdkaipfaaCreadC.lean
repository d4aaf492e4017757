/-
  Walk of package cread: a value into its field. (printed by gencread.py)
-/
import Derived.Test.YtdjbgojdkaipfaaCreadB
namespace Go.Proofs.Ytdjbgojdkaipfaa
open Go.RowKit

/-- A field. -/
structure Fd where
  id : Int
  kind : Int
  num : Int
  bits : Int
  text : List UInt8
  raw : List UInt8
  deriving DecidableEq
def Fd.cells (f : Fd) : Array Value := #[.int .i64 f.id, .int .u8 f.kind, .int .i64 f.num, .int .u64 f.bits, Sv f.text, Sv f.raw]
def bitsK (k : Int) : Int := if k = 4 then 16 else if k = 5 then 32 else if k = 6 then 64 else 0
/-- What the bytes of a value say. -/
def contF (id k : Int) (v : List UInt8) : Fd :=
  if k = 1 then ⟨id, k, 1, 0, [], []⟩ else if k = 3 then ⟨id, k, wideN (byteAt v 0) 8, 0, [], []⟩ else if 4 ≤ k ∧ k ≤ 6 then ⟨id, k, zagV (vnum v), 0, [], []⟩
  else if k = 7 then ⟨id, k, 0, valL v, [], []⟩ else if k = 8 then ⟨id, k, 0, 0, v.drop (vlen 10 v), []⟩ else if 9 ≤ k then ⟨id, k, 0, 0, [], v⟩ else ⟨id, k, 0, 0, [], []⟩
def valF (m : Nat) (k : Int) (a : List UInt8) : Int × Nat := if 4 ≤ k ∧ k ≤ 6 then numbR (bitsK k) a else skipV m k a
theorem vnum_self {a : List UInt8} (h : vcode a = 0) : vnum (a.take (vlen 10 a)) = vnum a := by
  have := (pre_var a h).2.1 []
  rw [List.append_nil] at this
  exact congrArg (fun x => x.2.2) this
theorem skipV_flat (m : Nat) (k : Int) : ∃ h, skipV m k = flatR h k := by
  cases m with
  | zero => exact ⟨_, rfl⟩
  | succ m => exact ⟨_, rfl⟩
structure Fl (W0 : World) (rb b fb : Nat) (s : List UInt8) (c : Cu) (F : Fd) (w : World) : Prop where
  rv : Rv rb b s c w
  fld : Blk w fb 121 F.cells
  gr : W0.grownBy w (some b)
  hb : W0.heap.size ≤ fb
theorem Fl.nb {W0 w : World} {rb b fb : Nat} {s : List UInt8} {c : Cu} {F : Fd} (h : Fl W0 rb b fb s c F w) : fb ≠ b := Blk.ne_ h.fld h.rv.cur (by decide)
theorem Fl.nr {W0 w : World} {rb b fb : Nat} {s : List UInt8} {c : Cu} {F : Fd} (h : Fl W0 rb b fb s c F w) : fb ≠ rb := Blk.ne_ h.fld h.rv.rdr (by decide)
theorem Fl.move {W0 w w' : World} {rb b fb : Nat} {s : List UInt8} {c c' : Cu} {F : Fd} (h : Fl W0 rb b fb s c F w) (hc : CurAt w' b c') (k : w.grownBy w' (some b)) (hs : c'.s = c.s) : Fl W0 rb b fb s c' F w' :=
  ⟨h.rv.move hc k hs, Blk.grown h.fld k (by intro e; injection e with e; exact h.nb e), only_trans h.gr k, h.hb⟩
theorem Fl.put {W0 w : World} {rb b fb : Nat} {s : List UInt8} {c : Cu} {F F' : Fd} (h : Fl W0 rb b fb s c F w) (i : Nat) (v : Value) (hv : F.cells.setIfInBounds i v = F'.cells) : Fl W0 rb b fb s c F' (w.setCell ⟨fb, i, none⟩ v) :=
  ⟨⟨Blk.far h.rv.rdr (p := ⟨fb, i, none⟩) (Ne.symm h.nr) v, Blk.far h.rv.cur (p := ⟨fb, i, none⟩) (Ne.symm h.nb) v, h.rv.cs⟩, hv ▸ Blk.set_ h.fld i v, only_setCell h.gr (.inr h.hb) v, h.hb⟩
def VF (W0 : World) (R : List UInt8 → Int × Nat) (C : List UInt8 → Fd) (rb b fb : Nat) (s : List UInt8) (c : Cu) (e : Ending) (w' : World) : Prop :=
  ∃ c' F, e = .returned (.tuple #[]) ∧ RdF R c c' ∧ Fl W0 rb b fb s c' F w' ∧ (c.code = 0 → c'.code = 0 → F = C (c.ahead.take (R c.ahead).2))
theorem text_here (c : Cu) (n : Nat) (h0 : c.code = 0) (h : c.pos + n ≤ c.en) : c.text (n : Int) = c.ahead.take n := by
  have := text_val c 0 n h0 (by omega)
  simpa using this
theorem take_ok {c : Cu} {n : Nat} (hf : c.fit) (h0 : c.code = 0) (h : (c.take (n : Int)).code = 0) : c.pos + n ≤ c.en := by
  have hr := (rd_take n hf).good h0
  have hl := ahead_length hf
  have h1 := hf.le1
  rw [hr.1] at h
  unfold takeR at h
  split at h
  · exact absurd h (by decide)
  · omega
theorem byte_val {c : Cu} (hf : c.fit) (h0 : c.code = 0) (h : (c.take 1).code = 0) : c.byte = byteAt (c.ahead.take 1) 0 := by
  have hp := take_ok (n := 1) hf h0 h
  have hw : c.why 1 = 0 := by
    unfold Cu.why
    rw [if_neg (by simpa using h0), if_neg (by decide), if_neg (by omega)]
  unfold Cu.byte
  rw [if_pos hw, byteAt_take _ _ _ (by omega)]
  have := Cu.ahead_at c 0 (by omega)
  rw [this]; rfl
theorem byte_bd' (c : Cu) : 0 ≤ c.byte ∧ c.byte ≤ 255 := by
  unfold Cu.byte
  split
  · exact ⟨byteAt_lo _ _, byteAt_hi _ _⟩
  · decide
set_option maxRecDepth 100000 in
set_option maxHeartbeats 2000000 in
theorem value1_any (W0 : World) (rb b fb : Nat) (s : List UInt8) (c : Cu) (id deep : Int) (w : World) (h : Fl W0 rb b fb s c ⟨id, 1, 0, 0, [], []⟩ w) (hf : c.fit) :
    Calls Try.prog 135 #[ptr rb, ptr fb, .int .i64 deep] w fun e w' => VF W0 (valF (32 - deep).toNat 1) (contF id 1) rb b fb s c e w' := by
  obtain ⟨hh, hsk⟩ := skipV_flat (32 - deep).toNat 1
  have HL := hid h
  have f1 : w.cell? ⟨fb, 1, none⟩ = some (.int .u8 1) := h.fld.cell 1
  have q1 := h.rv.p1
  clear h
  have f2 : w.cell? ⟨fb, 2, none⟩ = some (.int .i64 0) := HL.out.fld.cell 2
  have g2 := HL.out.fld.frozen 2
  go_enter Try.func135, Try.ntmps135
  go_wp2_with fail
  go_end0
  exact ⟨c, ⟨id, 1, 1, 0, [], []⟩, rfl, (RdF.nil hf).congr (by unfold valF; rw [if_neg (by decide), hsk]; rfl), HL.out.put 2 _ rfl, fun _ _ => rfl⟩
set_option maxRecDepth 100000 in
set_option maxHeartbeats 2000000 in
theorem value2_any (W0 : World) (rb b fb : Nat) (s : List UInt8) (c : Cu) (id deep : Int) (w : World) (h : Fl W0 rb b fb s c ⟨id, 2, 0, 0, [], []⟩ w) (hf : c.fit) :
    Calls Try.prog 135 #[ptr rb, ptr fb, .int .i64 deep] w fun e w' => VF W0 (valF (32 - deep).toNat 2) (contF id 2) rb b fb s c e w' := by
  obtain ⟨hh, hsk⟩ := skipV_flat (32 - deep).toNat 2
  have HL := hid h
  have f1 : w.cell? ⟨fb, 1, none⟩ = some (.int .u8 2) := h.fld.cell 1
  have q1 := h.rv.p1
  clear h
  go_enter Try.func135, Try.ntmps135
  go_wp2_with fail
  go_end0
  exact ⟨c, ⟨id, 2, 0, 0, [], []⟩, rfl, (RdF.nil hf).congr (by unfold valF; rw [if_neg (by decide), hsk]; rfl), HL.out, fun _ _ => rfl⟩
set_option maxRecDepth 100000 in
set_option maxHeartbeats 2000000 in
theorem value3_any (W0 : World) (rb b fb : Nat) (s : List UInt8) (c : Cu) (id deep : Int) (w : World) (h : Fl W0 rb b fb s c ⟨id, 3, 0, 0, [], []⟩ w) (hf : c.fit) :
    Calls Try.prog 135 #[ptr rb, ptr fb, .int .i64 deep] w fun e w' => VF W0 (valF (32 - deep).toNat 3) (contF id 3) rb b fb s c e w' := by
  obtain ⟨hh, hsk⟩ := skipV_flat (32 - deep).toNat 3
  have HL := hid h
  have f1 : w.cell? ⟨fb, 1, none⟩ = some (.int .u8 3) := h.fld.cell 1
  have q1 := h.rv.p1
  clear h
  go_enter Try.func135, Try.ntmps135
  go_wp2_with fail
  refine (byte_any b c _ HL.out.rv.cur hf).mono ?_; rintro e w1 ⟨rfl, hc1, hg1⟩
  obtain ⟨u0, u1⟩ := byte_bd' c
  have HL1 := hid (HL.out.move hc1 hg1 (Cu.take_s _ _))
  clear hc1 hg1
  go_wp2_with fail
  refine (wide_any c.byte 8 _ u0 (by omega) (by decide) (by decide)).mono ?_; rintro e w2 ⟨rfl, rfl⟩
  have f2 : w1.cell? ⟨fb, 2, none⟩ = some (.int .i64 0) := HL1.out.fld.cell 2
  have g2 := HL1.out.fld.frozen 2
  go_wp2_with fail
  go_end0
  have hR : RdF (valF (32 - deep).toNat 3) c (c.take 1) := (rd_take 1 hf).congr (by unfold valF; rw [if_neg (by decide), hsk]; rfl)
  refine ⟨_, ⟨id, 3, wideN c.byte 8, 0, [], []⟩, rfl, hR, HL1.out.put 2 _ rfl, fun h0 h1 => ?_⟩
  have hv : valF (32 - deep).toNat 3 c.ahead = takeR 1 c.ahead := by unfold valF; rw [if_neg (by decide), hsk]; rfl
  have hz : takeR 1 c.ahead = (0, 1) := by
    have := take_ok (n := 1) hf h0 h1
    have := ahead_length hf
    unfold takeR
    rw [if_neg (by omega)]
  rw [hv, hz]
  show _ = (⟨id, 3, wideN (byteAt (c.ahead.take 1) 0) 8, 0, [], []⟩ : Fd)
  rw [← byte_val hf h0 h1]
set_option maxRecDepth 100000 in
set_option maxHeartbeats 2000000 in
theorem value4_any (W0 : World) (rb b fb : Nat) (s : List UInt8) (c : Cu) (id deep : Int) (w : World) (h : Fl W0 rb b fb s c ⟨id, 4, 0, 0, [], []⟩ w) (hf : c.fit) :
    Calls Try.prog 135 #[ptr rb, ptr fb, .int .i64 deep] w fun e w' => VF W0 (valF (32 - deep).toNat 4) (contF id 4) rb b fb s c e w' := by
  obtain ⟨hh, hsk⟩ := skipV_flat (32 - deep).toNat 4
  have HL := hid h
  have f1 : w.cell? ⟨fb, 1, none⟩ = some (.int .u8 4) := h.fld.cell 1
  have q1 := h.rv.p1
  clear h
  go_enter Try.func135, Try.ntmps135
  go_wp2_with fail
  refine (number_any rb b s c 16 _ HL.out.rv hf (by decide)).mono ?_; rintro e w1 ⟨c1, n, rfl, hr, hc1, hg1, hn, n0, n1⟩
  have HL1 := hid (HL.out.move hc1 hg1 hr.s)
  have HR := hid (show RdF (valF (32 - deep).toNat 4) c c1 from hr.congr (by unfold valF; rw [if_pos (by decide)]; rfl))
  have HN := hid hn
  clear hc1 hg1 hr hn
  have f2 : w1.cell? ⟨fb, 2, none⟩ = some (.int .i64 0) := HL1.out.fld.cell 2
  have g2 := HL1.out.fld.frozen 2
  go_wp2_with fail
  go_end0
  refine ⟨c1, ⟨id, 4, n, 0, [], []⟩, rfl, HR.out, HL1.out.put 2 _ rfl, fun h0 h1 => ?_⟩
  have hz := (HR.out.good h0).1.symm.trans h1
  have hv : valF (32 - deep).toNat 4 c.ahead = numbR 16 c.ahead := by unfold valF; rw [if_pos (by decide)]; rfl
  rw [hv] at hz ⊢
  have hv0 : vcode c.ahead = 0 := by
    unfold numbR at hz
    by_cases q : vcode c.ahead = 0
    · exact q
    · rw [if_neg q] at hz; exact absurd hz q
  have hn2 : (numbR 16 c.ahead).2 = vlen 10 c.ahead := by
    unfold numbR at hz ⊢
    rw [if_pos hv0] at hz ⊢
    by_cases q : fitC (zagV (vnum c.ahead)) 16 = 0
    · rw [if_pos q]
    · rw [if_neg q] at hz; exact absurd hz q
  rw [hn2]
  show _ = (⟨id, 4, zagV (vnum (c.ahead.take (vlen 10 c.ahead))), 0, [], []⟩ : Fd)
  rw [vnum_self hv0, HN.out h0 h1]
set_option maxRecDepth 100000 in
set_option maxHeartbeats 2000000 in
theorem value5_any (W0 : World) (rb b fb : Nat) (s : List UInt8) (c : Cu) (id deep : Int) (w : World) (h : Fl W0 rb b fb s c ⟨id, 5, 0, 0, [], []⟩ w) (hf : c.fit) :
    Calls Try.prog 135 #[ptr rb, ptr fb, .int .i64 deep] w fun e w' => VF W0 (valF (32 - deep).toNat 5) (contF id 5) rb b fb s c e w' := by
  obtain ⟨hh, hsk⟩ := skipV_flat (32 - deep).toNat 5
  have HL := hid h
  have f1 : w.cell? ⟨fb, 1, none⟩ = some (.int .u8 5) := h.fld.cell 1
  have q1 := h.rv.p1
  clear h
  go_enter Try.func135, Try.ntmps135
  go_wp2_with fail
  refine (number_any rb b s c 32 _ HL.out.rv hf (by decide)).mono ?_; rintro e w1 ⟨c1, n, rfl, hr, hc1, hg1, hn, n0, n1⟩
  have HL1 := hid (HL.out.move hc1 hg1 hr.s)
  have HR := hid (show RdF (valF (32 - deep).toNat 5) c c1 from hr.congr (by unfold valF; rw [if_pos (by decide)]; rfl))
  have HN := hid hn
  clear hc1 hg1 hr hn
  have f2 : w1.cell? ⟨fb, 2, none⟩ = some (.int .i64 0) := HL1.out.fld.cell 2
  have g2 := HL1.out.fld.frozen 2
  go_wp2_with fail
  go_end0
  refine ⟨c1, ⟨id, 5, n, 0, [], []⟩, rfl, HR.out, HL1.out.put 2 _ rfl, fun h0 h1 => ?_⟩
  have hz := (HR.out.good h0).1.symm.trans h1
  have hv : valF (32 - deep).toNat 5 c.ahead = numbR 32 c.ahead := by unfold valF; rw [if_pos (by decide)]; rfl
  rw [hv] at hz ⊢
  have hv0 : vcode c.ahead = 0 := by
    unfold numbR at hz
    by_cases q : vcode c.ahead = 0
    · exact q
    · rw [if_neg q] at hz; exact absurd hz q
  have hn2 : (numbR 32 c.ahead).2 = vlen 10 c.ahead := by
    unfold numbR at hz ⊢
    rw [if_pos hv0] at hz ⊢
    by_cases q : fitC (zagV (vnum c.ahead)) 32 = 0
    · rw [if_pos q]
    · rw [if_neg q] at hz; exact absurd hz q
  rw [hn2]
  show _ = (⟨id, 5, zagV (vnum (c.ahead.take (vlen 10 c.ahead))), 0, [], []⟩ : Fd)
  rw [vnum_self hv0, HN.out h0 h1]
set_option maxRecDepth 100000 in
set_option maxHeartbeats 2000000 in
theorem value6_any (W0 : World) (rb b fb : Nat) (s : List UInt8) (c : Cu) (id deep : Int) (w : World) (h : Fl W0 rb b fb s c ⟨id, 6, 0, 0, [], []⟩ w) (hf : c.fit) :
    Calls Try.prog 135 #[ptr rb, ptr fb, .int .i64 deep] w fun e w' => VF W0 (valF (32 - deep).toNat 6) (contF id 6) rb b fb s c e w' := by
  obtain ⟨hh, hsk⟩ := skipV_flat (32 - deep).toNat 6
  have HL := hid h
  have f1 : w.cell? ⟨fb, 1, none⟩ = some (.int .u8 6) := h.fld.cell 1
  have q1 := h.rv.p1
  clear h
  go_enter Try.func135, Try.ntmps135
  go_wp2_with fail
  refine (number_any rb b s c 64 _ HL.out.rv hf (by decide)).mono ?_; rintro e w1 ⟨c1, n, rfl, hr, hc1, hg1, hn, n0, n1⟩
  have HL1 := hid (HL.out.move hc1 hg1 hr.s)
  have HR := hid (show RdF (valF (32 - deep).toNat 6) c c1 from hr.congr (by unfold valF; rw [if_pos (by decide)]; rfl))
  have HN := hid hn
  clear hc1 hg1 hr hn
  have f2 : w1.cell? ⟨fb, 2, none⟩ = some (.int .i64 0) := HL1.out.fld.cell 2
  have g2 := HL1.out.fld.frozen 2
  go_wp2_with fail
  go_end0
  refine ⟨c1, ⟨id, 6, n, 0, [], []⟩, rfl, HR.out, HL1.out.put 2 _ rfl, fun h0 h1 => ?_⟩
  have hz := (HR.out.good h0).1.symm.trans h1
  have hv : valF (32 - deep).toNat 6 c.ahead = numbR 64 c.ahead := by unfold valF; rw [if_pos (by decide)]; rfl
  rw [hv] at hz ⊢
  have hv0 : vcode c.ahead = 0 := by
    unfold numbR at hz
    by_cases q : vcode c.ahead = 0
    · exact q
    · rw [if_neg q] at hz; exact absurd hz q
  have hn2 : (numbR 64 c.ahead).2 = vlen 10 c.ahead := by
    unfold numbR at hz ⊢
    rw [if_pos hv0] at hz ⊢
    by_cases q : fitC (zagV (vnum c.ahead)) 64 = 0
    · rw [if_pos q]
    · rw [if_neg q] at hz; exact absurd hz q
  rw [hn2]
  show _ = (⟨id, 6, zagV (vnum (c.ahead.take (vlen 10 c.ahead))), 0, [], []⟩ : Fd)
  rw [vnum_self hv0, HN.out h0 h1]
set_option maxRecDepth 100000 in
set_option maxHeartbeats 2000000 in
theorem value7_any (W0 : World) (rb b fb : Nat) (s : List UInt8) (c : Cu) (id deep : Int) (w : World) (h : Fl W0 rb b fb s c ⟨id, 7, 0, 0, [], []⟩ w) (hf : c.fit) :
    Calls Try.prog 135 #[ptr rb, ptr fb, .int .i64 deep] w fun e w' => VF W0 (valF (32 - deep).toNat 7) (contF id 7) rb b fb s c e w' := by
  obtain ⟨hh, hsk⟩ := skipV_flat (32 - deep).toNat 7
  have HL := hid h
  have f1 : w.cell? ⟨fb, 1, none⟩ = some (.int .u8 7) := h.fld.cell 1
  have q1 := h.rv.p1
  clear h
  go_enter Try.func135, Try.ntmps135
  go_wp2_with fail
  refine (readlow64_any b c _ HL.out.rv.cur hf).mono ?_; rintro e w1 ⟨rfl, hc1, hg1⟩
  have HL1 := hid (HL.out.move hc1 hg1 (Cu.take_s _ _))
  clear hc1 hg1
  have f2 : w1.cell? ⟨fb, 3, none⟩ = some (.int .u64 0) := HL1.out.fld.cell 3
  have g2 := HL1.out.fld.frozen 3
  go_wp2_with fail
  go_end0
  have hR : RdF (valF (32 - deep).toNat 7) c (c.take 8) := (rd_take 8 hf).congr (by unfold valF; rw [if_neg (by decide), hsk]; rfl)
  refine ⟨_, ⟨id, 7, 0, valL (c.text 8), [], []⟩, rfl, hR, HL1.out.put 3 _ rfl, fun h0 h1 => ?_⟩
  have hv : valF (32 - deep).toNat 7 c.ahead = takeR 8 c.ahead := by unfold valF; rw [if_neg (by decide), hsk]; rfl
  have hp := take_ok (n := 8) hf h0 h1
  have hz : takeR 8 c.ahead = (0, 8) := by
    have := ahead_length hf
    unfold takeR
    rw [if_neg (by omega)]
  rw [hv, hz]
  show _ = (⟨id, 7, 0, valL (c.ahead.take 8), [], []⟩ : Fd)
  rw [← text_here c 8 h0 hp]; rfl
set_option maxRecDepth 100000 in
set_option maxHeartbeats 2000000 in
theorem value8_any (W0 : World) (rb b fb : Nat) (s : List UInt8) (c : Cu) (id deep : Int) (w : World) (h : Fl W0 rb b fb s c ⟨id, 8, 0, 0, [], []⟩ w) (hf : c.fit) :
    Calls Try.prog 135 #[ptr rb, ptr fb, .int .i64 deep] w fun e w' => VF W0 (valF (32 - deep).toNat 8) (contF id 8) rb b fb s c e w' := by
  obtain ⟨hh, hsk⟩ := skipV_flat (32 - deep).toNat 8
  have HL := hid h
  have f1 : w.cell? ⟨fb, 1, none⟩ = some (.int .u8 8) := h.fld.cell 1
  have q1 := h.rv.p1
  clear h
  go_enter Try.func135, Try.ntmps135
  go_wp2_with fail
  refine (rtxt_any rb b s c _ HL.out.rv hf).mono ?_; rintro e w1 ⟨c1, t, rfl, hr, hc1, hg1, ht⟩
  have HL1 := hid (HL.out.move hc1 hg1 hr.s)
  have HR := hid (show RdF (valF (32 - deep).toNat 8) c c1 from hr.congr (by unfold valF; rw [if_neg (by decide), hsk]; rfl))
  have HT := hid ht
  clear hc1 hg1 hr ht
  have f2 : w1.cell? ⟨fb, 4, none⟩ = some (Sv []) := HL1.out.fld.cell 4
  have g2 := HL1.out.fld.frozen 4
  go_wp2_with fail
  go_end0
  refine ⟨c1, ⟨id, 8, 0, 0, t, []⟩, rfl, HR.out, HL1.out.put 4 _ rfl, fun h0 h1 => ?_⟩
  have hv : valF (32 - deep).toNat 8 c.ahead = textR c.ahead := by unfold valF; rw [if_neg (by decide), hsk]; rfl
  rw [hv, HT.out h0 h1]; rfl
set_option maxRecDepth 100000 in
set_option maxHeartbeats 4000000 in
theorem valueR_any (W0 : World) (rb b fb : Nat) (s : List UInt8) (c : Cu) (id kind deep : Int) (w : World) (h : Fl W0 rb b fb s c ⟨id, kind, 0, 0, [], []⟩ w) (hf : c.fit) (hk : kind = 0 ∨ 9 ≤ kind) (hk2 : kind ≤ 255) (d0 : 0 ≤ deep) (d1 : deep ≤ 1000) :
    Calls Try.prog 135 #[ptr rb, ptr fb, .int .i64 deep] w fun e w' => VF W0 (valF (32 - deep).toNat kind) (contF id kind) rb b fb s c e w' := by
  obtain ⟨hh, hsk⟩ := skipV_flat (32 - deep).toNat kind
  have HL := hid h
  have f1 : w.cell? ⟨fb, 1, none⟩ = some (.int .u8 kind) := h.fld.cell 1
  have q1 := h.rv.p1
  have k1 : (kind == 1) = false := by rw [beq_eq_false_iff_ne]; omega
  have k2 : (kind == 2) = false := by rw [beq_eq_false_iff_ne]; omega
  have k3 : (kind == 3) = false := by rw [beq_eq_false_iff_ne]; omega
  have k4 : (kind == 4) = false := by rw [beq_eq_false_iff_ne]; omega
  have k5 : (kind == 5) = false := by rw [beq_eq_false_iff_ne]; omega
  have k6 : (kind == 6) = false := by rw [beq_eq_false_iff_ne]; omega
  have k7 : (kind == 7) = false := by rw [beq_eq_false_iff_ne]; omega
  have k8 : (kind == 8) = false := by rw [beq_eq_false_iff_ne]; omega
  have hv : ∀ a, valF (32 - deep).toNat kind a = skipV (32 - deep).toNat kind a := fun a => by unfold valF; rw [if_neg (by omega)]
  clear h
  go_enter Try.func135, Try.ntmps135
  go_wp2_with fail
  refine (raw_any rb b s c kind deep _ HL.out.rv hf (by omega) hk2 d0 d1).mono ?_; rintro e w1 ⟨c1, t, rfl, hr, hc1, hg1, ht⟩
  have HL1 := hid (HL.out.move hc1 hg1 hr.s)
  have HR := hid (show RdF (valF (32 - deep).toNat kind) c c1 from hr.congr (hv _).symm)
  have HT := hid ht
  clear hc1 hg1 hr ht
  have f2 : w1.cell? ⟨fb, 5, none⟩ = some (Sv []) := HL1.out.fld.cell 5
  have g2 := HL1.out.fld.frozen 5
  go_wp2_with fail
  go_end0
  refine ⟨c1, ⟨id, kind, 0, 0, [], t⟩, rfl, HR.out, HL1.out.put 5 _ rfl, fun h0 h1 => ?_⟩
  have hz := (HR.out.good h0).1.symm.trans h1
  rw [hv] at hz
  have h9 : 9 ≤ kind := by
    rcases hk with rfl | h
    · rw [hsk] at hz
      simp [flatR] at hz
    · exact h
  rw [hv, HT.out h0 h1]
  unfold contF
  rw [if_neg (by omega), if_neg (by omega), if_neg (by omega), if_neg (by omega), if_neg (by omega), if_pos h9]
theorem cvalue_any (W0 : World) (rb b fb : Nat) (s : List UInt8) (c : Cu) (id kind deep : Int) (w : World) (h : Fl W0 rb b fb s c ⟨id, kind, 0, 0, [], []⟩ w) (hf : c.fit) (k0 : 0 ≤ kind) (k1 : kind ≤ 255) (d0 : 0 ≤ deep) (d1 : deep ≤ 1000) :
    Calls Try.prog 135 #[ptr rb, ptr fb, .int .i64 deep] w fun e w' => VF W0 (valF (32 - deep).toNat kind) (contF id kind) rb b fb s c e w' := by
  by_cases hk : kind = 0 ∨ 9 ≤ kind
  · exact valueR_any W0 rb b fb s c id kind deep w h hf hk k1 d0 d1
  · obtain rfl | rfl | rfl | rfl | rfl | rfl | rfl | rfl : kind = 1 ∨ kind = 2 ∨ kind = 3 ∨ kind = 4 ∨ kind = 5 ∨ kind = 6 ∨ kind = 7 ∨ kind = 8 := by omega
    · exact value1_any W0 rb b fb s c id deep w h hf
    · exact value2_any W0 rb b fb s c id deep w h hf
    · exact value3_any W0 rb b fb s c id deep w h hf
    · exact value4_any W0 rb b fb s c id deep w h hf
    · exact value5_any W0 rb b fb s c id deep w h hf
    · exact value6_any W0 rb b fb s c id deep w h hf
    · exact value7_any W0 rb b fb s c id deep w h hf
    · exact value8_any W0 rb b fb s c id deep w h hf
end Go.Proofs.Ytdjbgojdkaipfaa
