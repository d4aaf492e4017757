/-
  The law CursorReads: its loop.
-/
import Derived.Test.YtlibnfkehcpdkaaCurReads
namespace Go.Proofs.Ytlibnfkehcpdkaa
open Go.RowKit

/-- What is done with a cursor. -/
structure Cmd where
  kind : Int
  n : Int
  deep : Int
structure Cmd.fit (o : Cmd) : Prop where
  k0 : 0 ≤ o.kind
  k1 : o.kind ≤ 255
  n0 : -9223372036854775808 ≤ o.n
  n1 : o.n ≤ 9223372036854775807
  d0 : -9223372036854775808 ≤ o.deep
  d1 : o.deep ≤ 9223372036854775807
def Cmd.cells (o : Cmd) : List Value := [.int .u8 o.kind, .int .i64 o.n, .int .i64 o.deep]
/-- The commands that came in, one by one. -/
def Cmds (w : World) (B : Nat) (A : Option Addr) (l : List Cmd) : Prop :=
  ∀ k (h : k < l.length), ∃ ad, A = some ad ∧ ad.block < B ∧ (l[k]).fit ∧ ∀ j (hj : j < 3), w.cell? (ad.add (k * 3 + j)) = some ((l[k]).cells[j]'(by simp [Cmd.cells]; omega))
theorem Cmds.below {w w' : World} {B : Nat} {A : Option Addr} {l : List Cmd} (h : Cmds w B A l) (hb : Below B w w') : Cmds w' B A l := by
  intro k hk
  obtain ⟨ad, e, hB, hf, hc⟩ := h k hk
  exact ⟨ad, e, hB, hf, fun j hj => (hb.cell (p := ad.add (k * 3 + j)) (by rw [block_of_add]; exact hB)).trans (hc j hj)⟩
/-- How memory stands within a round: the cursor, the document's, the command. -/
structure St (w0 w : World) (b g x : Nat) (c d : Cu) (o : Cmd) : Prop where
  cur : CurAt w b c
  doc : Blk w g 42 #[Sv d.s, .int .i64 d.pos, .int .i64 d.en, .int .i64 d.code]
  cmd : Blk w x 46 #[.int .u8 o.kind, .int .i64 o.n, .int .i64 o.deep]
  bel : Below w0.heap.size w0 w
  hb : w0.heap.size ≤ b
  hg : w0.heap.size ≤ g
  bg : b ≠ g
  bx : b ≠ x
  gx : g ≠ x
section
variable {w0 w w' : World} {b g x : Nat} {c d c' d' : Cu} {o : Cmd}
theorem St.ext (h : St w0 w b g x c d o) (k : Below w.heap.size w w') : St w0 w' b g x c d o :=
  ⟨h.cur.ext k, Blk.below h.doc k h.doc.lt, Blk.below h.cmd k h.cmd.lt, h.bel.trans (k.mono h.bel.size), h.hb, h.hg, h.bg, h.bx, h.gx⟩
theorem St.move (h : St w0 w b g x c d o) (hc : CurAt w' b c') (k : w.grownBy w' (some b)) : St w0 w' b g x c' d o :=
  ⟨hc, Blk.grown h.doc k (by intro e; injection e with e; exact h.bg e.symm), Blk.grown h.cmd k (by intro e; injection e with e; exact h.bx e.symm), below_only h.bel k h.bel.size h.hb, h.hb, h.hg, h.bg, h.bx, h.gx⟩
theorem blk_set4 {t : TypeId} {a1 a2 a3 a4 : Value} (h : Blk w g t #[a1, a2, a3, a4]) (v1 v2 v3 v4 : Value) :
    Blk ((((w.setCell ⟨g, 0, none⟩ v1).setCell ⟨g, 1, none⟩ v2).setCell ⟨g, 2, none⟩ v3).setCell ⟨g, 3, none⟩ v4) g t #[v1, v2, v3, v4] :=
  (((h.set_ 0 v1).set_ 1 v2).set_ 2 v3).set_ 3 v4
theorem St.put (h : St w0 w b g x c d o) (d' : Cu) :
    St w0 ((((w.setCell ⟨g, 0, none⟩ (Sv d'.s)).setCell ⟨g, 1, none⟩ (.int .i64 d'.pos)).setCell ⟨g, 2, none⟩ (.int .i64 d'.en)).setCell ⟨g, 3, none⟩ (.int .i64 d'.code)) b g x c d' o :=
  ⟨Blk.far (Blk.far (Blk.far (Blk.far h.cur (by exact h.bg) _) (by exact h.bg) _) (by exact h.bg) _) (by exact h.bg) _,
   blk_set4 h.doc _ _ _ _,
   Blk.far (Blk.far (Blk.far (Blk.far h.cmd (by exact h.gx.symm) _) (by exact h.gx.symm) _) (by exact h.gx.symm) _) (by exact h.gx.symm) _,
   (((h.bel.setCell (p := ⟨g, 0, none⟩) h.hg _).setCell (p := ⟨g, 1, none⟩) h.hg _).setCell (p := ⟨g, 2, none⟩) h.hg _).setCell (p := ⟨g, 3, none⟩) h.hg _, h.hb, h.hg, h.bg, h.bx, h.gx⟩
theorem St.drewN (h : St w0 w b g x c d o) (n : Nat) : St w0 (w.drewN n) b g x c d o := h.ext (ext_drewN w n)
theorem St.drew (h : St w0 w b g x c d o) : St w0 w.drew b g x c d o := h.ext (ext_drew w)
theorem St.alloc (h : St w0 w b g x c d o) (ob : Obj) : St w0 (w.alloc ob) b g x c d o := h.ext (ext_alloc w ob)
end
/-- The same with a part of the cursor's, and of the document's. -/
structure St2 (w0 w : World) (b g x : Nat) (c d : Cu) (o : Cmd) (y vb : Nat) (e f : Cu) : Prop where
  st : St w0 w b g x c d o
  cx : CurAt w y e
  dv : Blk w vb 42 #[Sv f.s, .int .i64 f.pos, .int .i64 f.en, .int .i64 f.code]
  hy : w0.heap.size ≤ y
  hv : w0.heap.size ≤ vb
  yb : y ≠ b
  yg : y ≠ g
  yx : y ≠ x
  yv : y ≠ vb
  vbb : vb ≠ b
  vg : vb ≠ g
  vx : vb ≠ x
section
variable {w0 w w' : World} {b g x y vb : Nat} {c d e f e' f' : Cu} {o : Cmd}
theorem St2.ext (h : St2 w0 w b g x c d o y vb e f) (k : Below w.heap.size w w') : St2 w0 w' b g x c d o y vb e f :=
  ⟨h.st.ext k, h.cx.ext k, Blk.below h.dv k h.dv.lt, h.hy, h.hv, h.yb, h.yg, h.yx, h.yv, h.vbb, h.vg, h.vx⟩
theorem St2.move (h : St2 w0 w b g x c d o y vb e f) (hc : CurAt w' y e') (k : w.grownBy w' (some y)) : St2 w0 w' b g x c d o y vb e' f :=
  ⟨⟨h.st.cur.other k h.yb.symm, Blk.grown h.st.doc k (by intro e; injection e with e; exact h.yg e.symm), Blk.grown h.st.cmd k (by intro e; injection e with e; exact h.yx e.symm), below_only h.st.bel k h.st.bel.size h.hy, h.st.hb, h.st.hg, h.st.bg, h.st.bx, h.st.gx⟩,
   hc, Blk.grown h.dv k (by intro e; injection e with e; exact h.yv e.symm), h.hy, h.hv, h.yb, h.yg, h.yx, h.yv, h.vbb, h.vg, h.vx⟩
theorem St2.put (h : St2 w0 w b g x c d o y vb e f) (f' : Cu) :
    St2 w0 ((((w.setCell ⟨vb, 0, none⟩ (Sv f'.s)).setCell ⟨vb, 1, none⟩ (.int .i64 f'.pos)).setCell ⟨vb, 2, none⟩ (.int .i64 f'.en)).setCell ⟨vb, 3, none⟩ (.int .i64 f'.code)) b g x c d o y vb e f' :=
  have b' : b ≠ vb := h.vbb.symm
  have g' : g ≠ vb := h.vg.symm
  have x' : x ≠ vb := h.vx.symm
  ⟨⟨Blk.far (Blk.far (Blk.far (Blk.far h.st.cur (by exact b') _) (by exact b') _) (by exact b') _) (by exact b') _,
    Blk.far (Blk.far (Blk.far (Blk.far h.st.doc (by exact g') _) (by exact g') _) (by exact g') _) (by exact g') _,
    Blk.far (Blk.far (Blk.far (Blk.far h.st.cmd (by exact x') _) (by exact x') _) (by exact x') _) (by exact x') _,
    (((h.st.bel.setCell (p := ⟨vb, 0, none⟩) h.hv _).setCell (p := ⟨vb, 1, none⟩) h.hv _).setCell (p := ⟨vb, 2, none⟩) h.hv _).setCell (p := ⟨vb, 3, none⟩) h.hv _, h.st.hb, h.st.hg, h.st.bg, h.st.bx, h.st.gx⟩,
   Blk.far (Blk.far (Blk.far (Blk.far h.cx (by exact h.yv) _) (by exact h.yv) _) (by exact h.yv) _) (by exact h.yv) _,
   blk_set4 h.dv _ _ _ _, h.hy, h.hv, h.yb, h.yg, h.yx, h.yv, h.vbb, h.vg, h.vx⟩
end
def CmdRel (w : World) (b g : Nat) (n : Nat) (i : Value) (wr : World) : Prop :=
  ∃ (k : Nat) (c : Cu), k ≤ n ∧ i = .int .i64 (k : Int) ∧ c.fit ∧ CurAt wr b c ∧ Blk wr g 42 #[Sv c.s, .int .i64 c.pos, .int .i64 c.en, .int .i64 c.code] ∧ Below w.heap.size w wr
set_option maxRecDepth 100000 in
set_option maxHeartbeats 4000000 in
theorem cursorReads_any (s : List UInt8) (l : List Cmd) (A : Option Addr) (cap : Nat) (w : World) (hs : s.length ≤ 1125899906842624) (hv : Cmds w w.heap.size A l) (hlc : l.length ≤ cap) :
    Calls Try.prog 7 #[Sv s, .slice A l.length cap] w fun e w' => e = .returned (.bool true) ∧ Below w.heap.size w w' := by
  have HV := hid hv
  clear hv
  by_cases h60 : 60 < l.length
  · go_enter Try.func7, Try.ntmps7
    go_wp2_with fail
    refine (cworks_any _).mono ?_; rintro e w10 ⟨rfl, hw10⟩
    go_wp2_with fail
    go_ret
    exact ⟨rfl, hw10⟩
  · have f1 := Cu.start_fit hs
    go_enter Try.func7, Try.ntmps7
    go_wp2_with fail
    refine (new_any s _ hs).mono ?_; rintro e w1 ⟨b, rfl, hb, hc1, hw1⟩
    go_wp2_with fail
    refine (rnew_any s _).mono ?_; rintro e w2 ⟨rfl, hw2⟩
    have hc2 := CurAt.ext hc1 hw2
    have hbw := ext_trans hw1 hw2
    clear hc1 hw1 hw2
    unfold agg
    have hbl := CurAt.lt hc2
    go_wp2_with fail
    refine (stands_any b (Cu.start s) _ (hc2.alloc _) f1).mono ?_; rintro e w3 ⟨rfl, hw3⟩
    obtain ⟨hA3, z3, hb3⟩ := box1 hw3
    have hc3 := CurAt.ext hc2 hb3
    have hbw3 := hbw.trans (hb3.mono hbw.size)
    have hgw : w.heap.size ≤ w2.heap.size := hbw.size
    generalize w2.heap.size = g at hA3 z3 hbl hgw ⊢
    clear hw3 hb3 hc2 hbw
    go_wp2_with fail
    have hrel0 : CmdRel w b g l.length (.int .i64 ((0 : Nat) : Int)) w3 := ⟨0, Cu.start s, by omega, rfl, f1, hc3, hA3, hbw3⟩
    clear hc3 hA3 hbw3
    go_loopw [7] (fun i wr => CmdRel w b g l.length i wr) (fun i _ => l.length - (intOf i).toNat)
    case atStart => exact hrel0
    case round =>
      clear hrel0
      obtain ⟨k, c, hk, rfl, hf, hc, hB, hbw⟩ := hrel
      by_cases hlt : k < l.length
      · obtain ⟨ad, hA, hadb, ho, hcell⟩ := (HV.out.below hbw) k hlt
        subst hA
        obtain ⟨⟨kd, n, deep⟩, hl⟩ : ∃ o, l[k] = o := ⟨_, rfl⟩
        have q0 := hcell 0 (by omega)
        have q1 := hcell 1 (by omega)
        have q2 := hcell 2 (by omega)
        rw [← add_of_add] at q1 q2
        change wr.cell? ⟨(ad.add (k * 3)).block, (ad.add (k * 3)).off + 1, none⟩ = _ at q1
        change wr.cell? ⟨(ad.add (k * 3)).block, (ad.add (k * 3)).off + 2, none⟩ = _ at q2
        simp only [hl, Cmd.cells, List.getElem_cons_zero, List.getElem_cons_succ, Nat.add_zero] at q0 q1 q2
        rw [hl] at ho
        obtain ⟨k0, k1, n0, n1, d0, d1⟩ := ho
        simp only at k0 k1 n0 n1 d0 d1
        clear hcell hl
        have hst : St w (wr.alloc (.cells #[.int .u8 kd, .int .i64 n, .int .i64 deep] 46)) b g wr.heap.size c c ⟨kd, n, deep⟩ :=
          ⟨hc.alloc _, hB.alloc _, Blk.new wr _ _, hbw.alloc hbw.size _, hb, hgw, Nat.ne_of_lt hbl, Nat.ne_of_lt hc.lt, Nat.ne_of_lt hB.lt⟩
        obtain ⟨p0, p1, p2, p3, u0, u1, u2, u3⟩ := blk4 hB
        have hgl := hB.lt
        clear hc hB hbw
        have HST := hid hst
        clear hst
        by_cases k0' : kd = 0
        · have c0 : (kd == 0) = true := by simpa using k0'
          clear k0'
          go_wp2_with fail
          refine (rbyte_any c _ hf).mono ?_; rintro e w4 ⟨rfl, hw4⟩
          have S4 := HST.out.ext hw4
          obtain ⟨p0, p1, p2, p3, u0, u1, u2, u3⟩ := blk4 S4.doc
          obtain ⟨r0, r1, r2, v0, v1, v2⟩ := blk3 S4.cmd
          have S5 := hid (S4.put (c.take 1))
          have S4' := hid S4
          clear hw4 S4
          unfold agg
          go_wp2_with fail
          refine (byte_any b c _ S5.out.cur hf).mono ?_; rintro e w6 ⟨rfl, hc6, hg6⟩
          have S6 := hid (S5.out.move hc6 hg6)
          have hf6 := Cu.take_fit hf 1
          clear hc6 hg6
          obtain ⟨p0, p1, p2, p3, u0, u1, u2, u3⟩ := blk4 S6.out.doc
          obtain ⟨r0, r1, r2, v0, v1, v2⟩ := blk3 S6.out.cmd
          go_wp2_with fail
          refine (stands_any b (c.take 1) _ S6.out.cur hf6).mono ?_; rintro e w9 ⟨rfl, hw9⟩
          have S9 := hid (S6.out.ext hw9)
          go_wp2_with fail
          go_roundw
          case rel => exact ⟨k + 1, (c.take 1), by omega, by go_num, hf6, S9.out.cur, S9.out.doc, S9.out.bel⟩
          case measure => simp [intOf] <;> omega
        have c0 : (kd == 0) = false := by simpa using k0'
        clear k0'
        by_cases k1' : kd = 1
        · have c1 : (kd == 1) = true := by simpa using k1'
          clear k1'
          go_wp2_with fail
          refine (rtake_any c n _ hf).mono ?_; rintro e w4 ⟨rfl, hw4⟩
          have S4 := HST.out.ext hw4
          obtain ⟨p0, p1, p2, p3, u0, u1, u2, u3⟩ := blk4 S4.doc
          obtain ⟨r0, r1, r2, v0, v1, v2⟩ := blk3 S4.cmd
          have S5 := hid (S4.put (c.take n))
          clear hw4 S4
          unfold agg
          go_wp2_with fail
          obtain ⟨r0, r1, r2, v0, v1, v2⟩ := blk3 S5.out.cmd
          go_wp2_with fail
          refine (take_any b c n _ S5.out.cur hf n0 n1).mono ?_; rintro e w6 ⟨rfl, hc6, hg6⟩
          have S6 := hid (S5.out.move hc6 hg6)
          have hf6 := Cu.take_fit hf n
          clear hc6 hg6
          obtain ⟨p0, p1, p2, p3, u0, u1, u2, u3⟩ := blk4 S6.out.doc
          obtain ⟨r0, r1, r2, v0, v1, v2⟩ := blk3 S6.out.cmd
          go_wp2_with fail
          refine (stands_any b (c.take n) _ S6.out.cur hf6).mono ?_; rintro e w9 ⟨rfl, hw9⟩
          have S9 := hid (S6.out.ext hw9)
          go_wp2_with fail
          go_roundw
          case rel => exact ⟨k + 1, (c.take n), by omega, by go_num, hf6, S9.out.cur, S9.out.doc, S9.out.bel⟩
          case measure => simp [intOf] <;> omega
        have c1 : (kd == 1) = false := by simpa using k1'
        clear k1'
        by_cases k2' : kd = 2
        · have c2 : (kd == 2) = true := by simpa using k2'
          clear k2'
          go_wp2_with fail
          refine (fail_any b c n _ HST.out.cur).mono ?_; rintro e w4 ⟨rfl, hc4, hg4⟩
          have S4 := hid (HST.out.move hc4 hg4)
          obtain ⟨p0, p1, p2, p3, u0, u1, u2, u3⟩ := blk4 S4.out.doc
          obtain ⟨r0, r1, r2, v0, v1, v2⟩ := blk3 S4.out.cmd
          clear hc4 hg4
          go_wp2_with fail
          refine (rfail_any c n _).mono ?_; rintro e w5 ⟨rfl, hw5⟩
          have S5 := S4.out.ext hw5
          obtain ⟨p0, p1, p2, p3, u0, u1, u2, u3⟩ := blk4 S5.doc
          obtain ⟨r0, r1, r2, v0, v1, v2⟩ := blk3 S5.cmd
          have S6 := hid (S5.put (c.fail n))
          have hf6 := Cu.fail_fit hf n
          clear hw5 S5
          unfold agg
          obtain ⟨p0, p1, p2, p3, u0, u1, u2, u3⟩ := blk4 S6.out.doc
          obtain ⟨r0, r1, r2, v0, v1, v2⟩ := blk3 S6.out.cmd
          go_wp2_with fail
          refine (stands_any b (c.fail n) _ S6.out.cur hf6).mono ?_; rintro e w9 ⟨rfl, hw9⟩
          have S9 := hid (S6.out.ext hw9)
          go_wp2_with fail
          go_roundw
          case rel => exact ⟨k + 1, (c.fail n), by omega, by go_num, hf6, S9.out.cur, S9.out.doc, S9.out.bel⟩
          case measure => simp [intOf] <;> omega
        have c2 : (kd == 2) = false := by simpa using k2'
        clear k2'
        cases hgd : c.good n
        · have HG := hid hgd
          clear hgd
          go_wp2_with fail
          refine (rsub_any c n _ hf).mono ?_; rintro e w4 ⟨rfl, hw4⟩
          have S4 := HST.out.ext hw4
          obtain ⟨p0, p1, p2, p3, u0, u1, u2, u3⟩ := blk4 S4.doc
          obtain ⟨r0, r1, r2, v0, v1, v2⟩ := blk3 S4.cmd
          have hgl4 := S4.doc.lt
          have hxl4 := S4.cmd.lt
          have HS4 := hid S4
          clear hw4 S4
          unfold rsubOut
          rw [HG.out, if_neg (by simp)]
          unfold agg
          go_wp2_with fail
          have S5 := hid (((HS4.out.put (c.take n)).alloc (.cells #[Sv (c.take n).s, .int .i64 (c.take n).pos, .int .i64 (c.take n).en, .int .i64 (c.take n).code] 42)).alloc (.cells #[Sv [], .int .i64 0, .int .i64 0, .int .i64 0] 42))
          refine (sub_any b c n _ S5.out.cur hf n0 n1).mono ?_
          rintro e w6 (⟨hbad, _⟩ | ⟨_, rfl, hc6, hg6⟩)
          · exact absurd hbad (by rw [HG.out]; simp)
          have S6 := hid (S5.out.move hc6 hg6)
          have hf6 := Cu.take_fit hf n
          clear hc6 hg6
          obtain ⟨p0, p1, p2, p3, u0, u1, u2, u3⟩ := blk4 S6.out.doc
          obtain ⟨r0, r1, r2, v0, v1, v2⟩ := blk3 S6.out.cmd
          go_wp2_with fail
          refine (stands_any b (c.take n) _ S6.out.cur hf6).mono ?_; rintro e w9 ⟨rfl, hw9⟩
          have S9 := hid (S6.out.ext hw9)
          go_wp2_with fail
          go_roundw
          case rel => exact ⟨k + 1, (c.take n), by omega, by go_num, hf6, S9.out.cur, S9.out.doc, S9.out.bel⟩
          case measure => simp [intOf] <;> omega
        · have HG := hid hgd
          have hwz : c.why n = 0 := by simpa [Cu.good] using hgd
          have hfs := Cu.sub_fit hf hwz
          have HWZ := hid hwz
          clear hgd hwz
          go_wp2_with fail
          refine (rsub_any c n _ hf).mono ?_; rintro e w4 ⟨rfl, hw4⟩
          have S4 := HST.out.ext hw4
          obtain ⟨p0, p1, p2, p3, u0, u1, u2, u3⟩ := blk4 S4.doc
          obtain ⟨r0, r1, r2, v0, v1, v2⟩ := blk3 S4.cmd
          have hgl4 := S4.doc.lt
          have hxl4 := S4.cmd.lt
          have HS4 := hid S4
          clear hw4 S4
          unfold rsubOut
          rw [HG.out, if_pos rfl]
          unfold agg
          go_wp2_with fail
          have S5 := hid (((HS4.out.put (c.take n)).alloc (.cells #[Sv (c.take n).s, .int .i64 (c.take n).pos, .int .i64 (c.take n).en, .int .i64 (c.take n).code] 42)).alloc (.cells #[Sv (c.sub n).s, .int .i64 (c.sub n).pos, .int .i64 (c.sub n).en, .int .i64 (c.sub n).code] 42))
          refine (sub_any b c n _ S5.out.cur hf n0 n1).mono ?_
          rintro e w6 (⟨_, y, rfl, hy6, hx6, hc6, hg6⟩ | ⟨hbad, _⟩)
          case inr => exact absurd hbad (by rw [HG.out]; simp)
          have hV5 := Blk.new ((((((w4.setCell ⟨g, 0, none⟩ (Sv (c.take n).s)).setCell ⟨g, 1, none⟩ (.int .i64 (c.take n).pos)).setCell ⟨g, 2, none⟩ (.int .i64 (c.take n).en)).setCell ⟨g, 3, none⟩ (.int .i64 (c.take n).code)).alloc (.cells #[Sv (c.take n).s, .int .i64 (c.take n).pos, .int .i64 (c.take n).en, .int .i64 (c.take n).code] 42))) 42 #[Sv (c.sub n).s, .int .i64 (c.sub n).pos, .int .i64 (c.sub n).en, .int .i64 (c.sub n).code]
          simp at hV5 hy6
          have hbl4 := HS4.out.cur.lt
          have h04 := HS4.out.bel.size
          have S6 : St2 w w6 b g wr.heap.size (c.take n) (c.take n) ⟨kd, n, deep⟩ y (w4.heap.size + 1) (c.sub n) (c.sub n) :=
            ⟨S5.out.move hc6 hg6, hx6, Blk.grown hV5 hg6 (by intro e; injection e with e; omega), by omega, by omega, by omega, by omega, by omega, by omega, by omega, by omega, by omega⟩
          have hf6 := Cu.take_fit hf n
          clear hc6 hg6 hx6 hV5
          obtain ⟨p0, p1, p2, p3, u0, u1, u2, u3⟩ := blk4 S6.dv
          obtain ⟨r0, r1, r2, v0, v1, v2⟩ := blk3 S6.st.cmd
          have HS6 := hid S6
          clear S6
          have hxv : wr.heap.size < w4.heap.size + 1 := by omega
          have hgv : g < w4.heap.size + 1 := by omega
          generalize w4.heap.size + 1 = vb at *
          go_wp2_with fail
          refine (rtake_any (c.sub n) deep _ hfs).mono ?_; rintro e w7 ⟨rfl, hw7⟩
          have S7 := HS6.out.ext hw7
          obtain ⟨p0, p1, p2, p3, u0, u1, u2, u3⟩ := blk4 S7.dv
          obtain ⟨r0, r1, r2, v0, v1, v2⟩ := blk3 S7.st.cmd
          have S8 := hid (S7.put ((c.sub n).take deep))
          clear hw7 S7
          unfold agg
          go_wp2_with fail
          refine (take_any y (c.sub n) deep _ S8.out.cx hfs d0 d1).mono ?_; rintro e w9 ⟨rfl, hc9, hg9⟩
          have S9 := hid (S8.out.move hc9 hg9)
          have hf9 := Cu.take_fit hfs deep
          clear hc9 hg9
          obtain ⟨p0, p1, p2, p3, u0, u1, u2, u3⟩ := blk4 S9.out.dv
          go_wp2_with fail
          refine (stands_any y ((c.sub n).take deep) _ S9.out.cx hf9).mono ?_; rintro e w10 ⟨rfl, hw10⟩
          have S10 := hid (S9.out.ext hw10)
          clear hw10
          have S11 := hid S10.out.st
          obtain ⟨p0, p1, p2, p3, u0, u1, u2, u3⟩ := blk4 S11.out.doc
          go_wp2_with fail
          refine (stands_any b (c.take n) _ S11.out.cur hf6).mono ?_; rintro e w12 ⟨rfl, hw12⟩
          have S12 := hid (S11.out.ext hw12)
          go_wp2_with fail
          go_roundw
          case rel => exact ⟨k + 1, (c.take n), by omega, by go_num, hf6, S12.out.cur, S12.out.doc, S12.out.bel⟩
          case measure => simp [intOf] <;> omega
      · go_wp2_with fail
        refine (cworks_any _).mono ?_; rintro e w10 ⟨rfl, hw10⟩
        go_wp2_with fail
        go_ret
        exact ⟨rfl, hbw.trans (hw10.mono hbw.size)⟩
end Go.Proofs.Ytlibnfkehcpdkaa
