/-
  The law VarintReads: its walk.
-/
import Derived.Test.YtlibnfkehcpdkaaVarLaw
import Derived.Test.YtlibnfkehcpdkaaSt
namespace Go.Proofs.Ytlibnfkehcpdkaa
open Go.RowKit

structure VJ (c d : Cu) : Prop where
  fc : c.fit
  fd : d.fit
  code : d.code = c.code
  same : c.code = 0 → c = d
theorem VJ.step {c d c' d' : Cu} {u v : Int} (h : VJ c d) (hc : VRd c c' u) (hd : VRd d d' v) : VJ c' d' ∧ v = u := by
  by_cases h0 : c.code = 0
  · obtain rfl := h.same h0
    obtain ⟨a1, a2, a3⟩ := hc.good h0
    obtain ⟨b1, b2, b3⟩ := hd.good h0
    exact ⟨⟨hc.fit, hd.fit, by rw [a1, b1], fun hz => by rw [a3 (a1 ▸ hz), b3 (a1 ▸ hz)]⟩, by rw [a2, b2]⟩
  · obtain ⟨a1, a2⟩ := hc.bad h0
    obtain ⟨b1, b2⟩ := hd.bad (by rw [h.code]; exact h0)
    rw [a1, b1, a2, b2]
    exact ⟨h, rfl⟩
def VRRel (w : World) (s : List UInt8) (b g : Nat) (i : Value) (wr : World) : Prop :=
  ∃ (k : Nat) (c d : Cu), k ≤ s.length + 1 ∧ i = .int .i64 (k : Int) ∧ VJ c d ∧ Sd w wr b g c d
set_option maxRecDepth 100000 in
set_option maxHeartbeats 4000000 in
theorem varintReads_any (s : List UInt8) (w : World) (hs : s.length ≤ 1125899906842624) :
    Calls Try.prog 11 #[Sv s] w fun e w' => e = .returned (.bool true) ∧ Below w.heap.size w w' := by
  by_cases h60 : 300 < (s.length : Int)
  · go_enter Try.func11, Try.ntmps11
    go_wp2_with fail
    refine (vworks_any _).mono ?_; rintro e w10 ⟨rfl, hw10⟩
    go_wp2_with fail
    go_ret
    exact ⟨rfl, hw10⟩
  · have f1 := Cu.start_fit hs
    go_enter Try.func11, Try.ntmps11
    go_wp2_with fail
    refine (new_any s _ hs).mono ?_; rintro e w1 ⟨b, rfl, hb, hc1, hw1⟩
    go_wp2_with fail
    refine (rnew_any s _).mono ?_; rintro e w2 ⟨rfl, hw2⟩
    have hc2 := CurAt.ext hc1 hw2
    have hbw := ext_trans hw1 hw2
    have hrel0 : VRRel w s b w2.heap.size (.int .i64 0) (w2.alloc (.cells #[Sv (Cu.start s).s, .int .i64 (Cu.start s).pos, .int .i64 (Cu.start s).en, .int .i64 (Cu.start s).code] 42)) :=
      ⟨0, _, _, by omega, rfl, ⟨f1, f1, rfl, fun _ => rfl⟩, hc2.alloc _, Blk.new w2 _ _, hbw.alloc hbw.size _, hb, hbw.size, Nat.ne_of_lt hc2.lt⟩
    clear hc1 hw1 hw2 hc2 hbw
    unfold agg
    go_wp2_with fail
    generalize w2.heap.size = g at hrel0 ⊢
    go_loopw [5] (fun i wr => VRRel w s b g i wr) (fun i _ => s.length + 1 - (intOf i).toNat)
    case atStart => exact hrel0
    case round =>
      clear hrel0
      obtain ⟨k, c, d, hk, rfl, hj, hS⟩ := hrel
      have hS := hid hS
      by_cases hlt : k ≤ s.length
      · go_wp2_with fail
        refine (vread_any b c _ hS.out.cur hj.fc).mono ?_; rintro e w4 ⟨c', u, rfl, hv4, hc4, hg4⟩
        have S4 := hS.out.move hc4 hg4
        obtain ⟨p0, p1, p2, p3, u0, u1, u2, u3⟩ := blk4 S4.doc
        have hS4 := hid S4
        clear hc4 hg4 S4
        go_wp2_with fail
        refine (rvread_any d _ hj.fd).mono ?_; rintro e w5 ⟨d', v, rfl, hv5, hw5⟩
        obtain ⟨hj', rfl⟩ := hj.step hv4 hv5
        have S5 := hS4.out.ext hw5
        obtain ⟨p0, p1, p2, p3, u0, u1, u2, u3⟩ := blk4 S5.doc
        have S6 := S5.put d'
        have hS6 := hid S6
        clear hw5 S5 S6 hv4 hv5
        unfold agg
        go_wp2_with fail
        obtain ⟨p0, p1, p2, p3, u0, u1, u2, u3⟩ := blk4 hS6.out.doc
        by_cases hz : c'.code = 0
        · obtain rfl := hj'.same hz
          have c0 : (c'.code == 0) = true := by simpa using hz
          have HJ := hid hj'
          clear hz hj'
          go_quiet ((first
            | (go_at_call 36; exact err_quiet b _ _ _ hS6.out.cur)
            | (go_at_call 35; exact at_quiet b _ _ _ hS6.out.cur)))
          go_wp2_with fail
          go_roundw
          case rel => exact ⟨k + 1, c', c', by omega, by go_num, HJ.out, hS6.out.drewN _⟩
          case measure => simp [intOf] <;> omega
        · have c0 : (c'.code == 0) = false := by simpa using hz
          have c1 : (c'.code != d'.code) = false := by rw [hj'.code]; simp
          have c2 : (d'.code == 0) = false := by rw [hj'.code]; exact c0
          have HJ := hid hj'
          clear hz hj'
          go_quiet ((first
            | (go_at_call 36; exact err_quiet b _ _ _ hS6.out.cur)
            | (go_at_call 35; exact at_quiet b _ _ _ hS6.out.cur)))
          go_wp2_with fail
          go_roundw
          case rel => exact ⟨k + 1, c', d', by omega, by go_num, HJ.out, hS6.out.drewN _⟩
          case measure => simp [intOf] <;> omega
      · have HB := hid hS.out.bel
        clear hS
        go_wp2_with fail
        refine (vworks_any _).mono ?_; rintro e w10 ⟨rfl, hw10⟩
        go_wp2_with fail
        go_ret
        exact ⟨rfl, HB.out.trans (hw10.mono HB.out.size)⟩
end Go.Proofs.Ytlibnfkehcpdkaa
