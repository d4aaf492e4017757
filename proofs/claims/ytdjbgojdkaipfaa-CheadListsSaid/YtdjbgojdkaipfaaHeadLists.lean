/-
  The law CheadLists.
-/
import Derived.Test.YtdjbgojdkaipfaaHeadLaws
import Derived.Deep.DeepCutAuto
import Derived.Test.YtdjbgojdkaipfaaStill
namespace Go.Proofs.Ytdjbgojdkaipfaa
open Go.RowKit

set_option maxRecDepth 100000 in
set_option maxHeartbeats 4000000 in
theorem cheadLists_any (s : List UInt8) (w : World) (hs : s.length ≤ 1125899906842624) :
    Calls Try.prog 13 #[Sv s] w fun e w' => e = .returned (.bool true) ∧ Below w.heap.size w w' := by
  have f1 := hid (Cu.start_fit hs)
  go_enter Try.func13, Try.ntmps13
  go_wp2_with fail
  refine (new_any s _ hs).mono ?_; rintro e w1 ⟨b, rfl, hb, hc1, hw1⟩
  go_wp2_with fail
  refine (rnew_any s _).mono ?_; rintro e w2 ⟨rfl, hw2⟩
  have hc2 := CurAt.ext hc1 hw2
  have hbw := ext_trans hw1 hw2
  have hS0 : Sd w (w2.alloc (.cells #[Sv (Cu.start s).s, .int .i64 (Cu.start s).pos, .int .i64 (Cu.start s).en, .int .i64 (Cu.start s).code] 78)) b w2.heap.size (Cu.start s) (Cu.start s) :=
    ⟨hc2.alloc _, Blk.new w2 _ _, hbw.alloc hbw.size _, hb, hbw.size, Nat.ne_of_lt hc2.lt⟩
  clear hc1 hw1 hw2 hc2 hbw
  unfold agg
  go_wp2_with fail
  generalize w2.heap.size = g at hS0 ⊢
  have hS := hid hS0
  clear hS0
  refine (listhead_any b _ _ hS.out.cur f1.out).mono ?_; rintro e w4 ⟨c', id, kind, rfl, hv4, hvb, hvg, hc4, hg4⟩
  have S4 := hS.out.move hc4 hg4
  obtain ⟨p0, p1, p2, p3, u0, u1, u2, u3⟩ := blk4 S4.doc
  have hS4 := hid S4
  clear hc4 hg4 S4
  go_wp2_with fail
  refine (rlisthead_any (Cu.start s) _ f1.out).mono ?_; rintro e w5 ⟨d', id', kind', rfl, hv5, hub, hug, hw5⟩
  obtain ⟨hj', rfl, rfl⟩ := (VJ.mk f1.out f1.out rfl (fun _ => rfl) : VJ (Cu.start s) (Cu.start s)).stepL listR hv4 hvb hvg hv5 hub hug
  have S5 := hS4.out.ext hw5
  obtain ⟨p0, p1, p2, p3, u0, u1, u2, u3⟩ := blk4 S5.doc
  have S6 := S5.put d'
  have hS6 := hid S6
  clear hw5 S5 S6 hv4 hv5 hvb hvg hub hug hS hS4
  unfold agg
  go_wp2_with fail
  obtain ⟨p0, p1, p2, p3, u0, u1, u2, u3⟩ := blk4 hS6.out.doc
  have i0 : (id' != id') = false := by simp
  have i1 : (kind' != kind') = false := by simp
  go_cut [58] (fun c wx => c = .bool false ∧ Below w.heap.size w wx)
  case first =>
    by_cases hz : c'.code = 0
    · obtain rfl := hj'.same hz
      have c0 : (c'.code == 0) = true := by simpa using hz
      have HJ := hid hj'
      clear hz hj'
      go_quiet ((first
        | (go_at_call 57; exact err_quiet b _ _ _ hS6.out.cur)
        | (go_at_call 58; exact at_quiet b _ _ _ hS6.out.cur)))
      go_wp2_with fail
      go_meet
      exact ⟨rfl, below_drewN hS6.out.bel _⟩
    · have c0 : (c'.code == 0) = false := by simpa using hz
      have c1 : (c'.code != d'.code) = false := by rw [hj'.code]; simp
      have c2 : (d'.code == 0) = false := by rw [hj'.code]; exact c0
      have HJ := hid hj'
      clear hz hj'
      go_quiet ((first
        | (go_at_call 57; exact err_quiet b _ _ _ hS6.out.cur)
        | (go_at_call 58; exact at_quiet b _ _ _ hS6.out.cur)))
      go_wp2_with fail
      go_meet
      exact ⟨rfl, below_drewN hS6.out.bel _⟩
  case rest =>
    obtain ⟨rfl, hbc⟩ := hcut
    have BC := hid hbc
    clear hbc hS6 hj' i0 i1 p0 p1 p2 p3 u0 u1 u2 u3
    go_wp2_with fail
    refine (new_any s _ hs).mono ?_; rintro e w1 ⟨b, rfl, hb, hc1, hw1⟩
    go_wp2_with fail
    refine (rnew_any s _).mono ?_; rintro e w2 ⟨rfl, hw2⟩
    have hc2 := CurAt.ext hc1 hw2
    have hbw := ext_trans hw1 hw2
    have hS0 : Sd wc (w2.alloc (.cells #[Sv (Cu.start s).s, .int .i64 (Cu.start s).pos, .int .i64 (Cu.start s).en, .int .i64 (Cu.start s).code] 78)) b w2.heap.size (Cu.start s) (Cu.start s) :=
      ⟨hc2.alloc _, Blk.new w2 _ _, hbw.alloc hbw.size _, hb, hbw.size, Nat.ne_of_lt hc2.lt⟩
    clear hc1 hw1 hw2 hc2 hbw
    unfold agg
    go_wp2_with fail
    generalize w2.heap.size = g at hS0 ⊢
    have hS := hid hS0
    clear hS0
    refine (maphead_any b _ _ hS.out.cur f1.out).mono ?_; rintro e w4 ⟨c', n, k, m, rfl, hv4, hvb, hvg, hc4, hg4⟩
    have S4 := hS.out.move hc4 hg4
    obtain ⟨p0, p1, p2, p3, u0, u1, u2, u3⟩ := blk4 S4.doc
    have hS4 := hid S4
    clear hc4 hg4 S4
    go_wp2_with fail
    refine (rmaphead_any (Cu.start s) _ f1.out).mono ?_; rintro e w5 ⟨d', n', k', m', rfl, hv5, hub, hug, hw5⟩
    have hj' := (VJ.mk f1.out f1.out rfl (fun _ => rfl) : VJ (Cu.start s) (Cu.start s)).stepR (fun a => ((mapR a).1, (mapR a).2.1)) hv4 hv5
    obtain ⟨e1, e2, e3⟩ := hvg rfl
    obtain ⟨e4, e5, e6⟩ := hug rfl
    obtain rfl : n = n' := e1.trans e4.symm
    obtain rfl : k = k' := e2.trans e5.symm
    obtain rfl : m = m' := e3.trans e6.symm
    have S5 := hS4.out.ext hw5
    obtain ⟨p0, p1, p2, p3, u0, u1, u2, u3⟩ := blk4 S5.doc
    have S6 := S5.put d'
    have hS6 := hid S6
    clear hw5 S5 S6 hv4 hv5 hvb hvg hub hug hS hS4 e1 e2 e3 e4 e5 e6
    unfold agg
    go_wp2_with fail
    obtain ⟨p0, p1, p2, p3, u0, u1, u2, u3⟩ := blk4 hS6.out.doc
    have i0 : (n == n) = true := by simp
    have i1 : (k == k) = true := by simp
    have i2 : (m == m) = true := by simp
    by_cases hz : c'.code = 0
    · obtain rfl := hj'.same hz
      have c0 : (c'.code != 0) = false := by simpa using hz
      have HJ := hid hj'
      clear hz hj'
      refine still_tail 33 (by kernel_rfl) (by kernel_rfl) ?_
      intro w7 hw7
      have hS7 := hid (hw7 ▸ hS6.out.ext (ext_drew _))
      clear hw7 hS6 p0 p1 p2 p3 u0 u1 u2 u3
      obtain ⟨p0, p1, p2, p3, u0, u1, u2, u3⟩ := blk4 hS7.out.doc
      simp only [List.take_succ_cons, List.take_zero, List.drop_succ_cons, List.drop_zero]
      repeat (first | still_step | still_call (err_st b c' _ hS7.out.cur) | still_call (at_st b c' _ hS7.out.cur))
      refine wpStill_nil ?_
      go_wp2_with fail
      refine (hworks_any _).mono ?_; rintro e w8 ⟨rfl, hw8⟩
      go_wp2_with fail
      go_ret
      exact ⟨rfl, BC.out.trans ((hS7.out.bel.trans (hw8.mono hS7.out.bel.size)).mono BC.out.size)⟩
    · have c0 : (c'.code != 0) = true := by simpa using hz
      have c1 : (c'.code == d'.code) = true := by rw [hj'.code]; simp
      have c2 : (d'.code != 0) = true := by rw [hj'.code]; exact c0
      have HJ := hid hj'
      clear hz hj'
      refine still_tail 33 (by kernel_rfl) (by kernel_rfl) ?_
      intro w7 hw7
      have hS7 := hid (hw7 ▸ hS6.out.ext (ext_drew _))
      clear hw7 hS6 p0 p1 p2 p3 u0 u1 u2 u3
      obtain ⟨p0, p1, p2, p3, u0, u1, u2, u3⟩ := blk4 hS7.out.doc
      simp only [List.take_succ_cons, List.take_zero, List.drop_succ_cons, List.drop_zero]
      repeat (first | still_step | still_call (err_st b c' _ hS7.out.cur) | still_call (at_st b c' _ hS7.out.cur))
      refine wpStill_nil ?_
      go_wp2_with fail
      refine (hworks_any _).mono ?_; rintro e w8 ⟨rfl, hw8⟩
      go_wp2_with fail
      go_ret
      exact ⟨rfl, BC.out.trans ((hS7.out.bel.trans (hw8.mono hS7.out.bel.size)).mono BC.out.size)⟩
end Go.Proofs.Ytdjbgojdkaipfaa
