/-
  The law WordReads: its walk.
-/
import Derived.Test.YtlibnfkehcpdkaaDoorWordLaw
import Derived.Test.YtlibnfkehcpdkaaDoorSt
namespace Go.Proofs.YtlibnfkehcpdkaaDoor
open Go.RowKit

set_option maxRecDepth 100000 in
set_option maxHeartbeats 4000000 in
theorem wordReads_any (s l : List UInt8) (v : Value) (w : World) (hh : Highs w) (hs : s.length ≤ 1125899906842624) (hv : Bs w w.heap.size v l) :
    Calls Tryd.prog 5 #[Sv s, v] w fun e w' => e = .returned (.bool true) ∧ Below w.heap.size w w' := by
  obtain ⟨A, cap, rfl, hlc, hr⟩ := hv
  have HR := hid hr
  clear hr
  by_cases h60 : 40 < l.length
  · go_enter Tryd.func5, Tryd.ntmps5
    go_wp2_with fail
    refine (wworks_any _ hh).mono ?_; rintro e w10 ⟨rfl, hw10⟩
    go_wp2_with fail
    go_ret
    exact ⟨rfl, hw10⟩
  · have f1 := Cu.start_fit hs
    go_enter Tryd.func5, Tryd.ntmps5
    go_wp2_with fail
    refine (new_any s _ hs).mono ?_; rintro e w1 ⟨b, rfl, hb, hc1, hw1⟩
    go_wp2_with fail
    refine (rnew_any s _).mono ?_; rintro e w2 ⟨rfl, hw2⟩
    have hc2 := CurAt.ext hc1 hw2
    have hbw := ext_trans hw1 hw2
    have hS0 : Sd w (w2.alloc (.cells #[Sv (Cu.start s).s, .int .i64 (Cu.start s).pos, .int .i64 (Cu.start s).en, .int .i64 (Cu.start s).code] 38)) b w2.heap.size (Cu.start s) (Cu.start s) :=
      ⟨hc2.alloc _, Blk.new w2 _ _, hbw.alloc hbw.size _, hb, hbw.size, Nat.ne_of_lt hc2.lt⟩
    have hz : Hid (w2.heap.size = w2.heap.size) := rfl
    clear hc1 hw1 hw2 hc2 hbw
    unfold agg
    go_wp2_with fail
    have hrel0 : ∃ (k : Nat) (c : Cu), k ≤ l.length ∧ Value.int .i64 0 = .int .i64 (k : Int) ∧ c.fit ∧ Sd w (w2.alloc (.cells #[Sv (Cu.start s).s, .int .i64 (Cu.start s).pos, .int .i64 (Cu.start s).en, .int .i64 (Cu.start s).code] 38)) b w2.heap.size c c := ⟨0, Cu.start s, by omega, rfl, f1, hS0⟩
    clear hS0
    generalize w2.heap.size = g at hrel0 ⊢
    go_loopw [7] (fun i wr => ∃ (k : Nat) (c : Cu), k ≤ l.length ∧ i = .int .i64 (k : Int) ∧ c.fit ∧ Sd w wr b g c c) (fun i _ => l.length - (intOf i).toNat)
    case atStart => exact hrel0
    case round =>
      clear hrel0
      obtain ⟨k, c, hk, rfl, hf, hS⟩ := hrel
      have hS := hid hS
      by_cases hlt : k < l.length
      · obtain ⟨ad, u, hA, hadb, hu, hcell⟩ := (HR.out.below hS.out.bel).at_ hlt
        subst hA
        have hul : u = b8 l[k] := by
          have e : (b8s l)[k]? = some (b8 l[k]) := by simp [b8s, hlt]
          rw [e] at hu; injection hu with hu; exact hu.symm
        subst hul
        clear hu
        unfold b8 at hcell
        have m1 : (0 : Int) ≤ (l[k].toNat : Int) := by omega
        have m2 : (l[k].toNat : Int) ≤ 255 := by have := l[k].toNat_lt; omega
        generalize (l[k].toNat : Int) = m at hcell m1 m2
        by_cases k0 : m % 3 = 0
        · have c0 : (m % 3 == 0) = true := by simpa using k0
          clear k0
          go_wp2_with fail
          refine (readlow32_any b c _ hS.out.cur hf).mono ?_; rintro e w4 ⟨rfl, hc4, hg4⟩
          have S4 := hS.out.move hc4 hg4
          obtain ⟨p0, p1, p2, p3, u0, u1, u2, u3⟩ := blk4 S4.doc
          have hS4 := hid S4
          clear hc4 hg4 S4
          have V0 : 0 ≤ valL (c.text 4) := valL_nonneg _
          have V1 : valL (c.text 4) ≤ 4294967295 := by have h1 := Cu.text_len c 4; have h2 := valL_lt_le (c.text 4) 4 (by simpa using h1); omega
          have hv := hid (rfl : valL (c.text 4) = valL (c.text 4))
          obtain ⟨V, hV⟩ : ∃ V, valL (c.text 4) = V := ⟨_, rfl⟩
          rw [hV] at V0 V1 ⊢
          have HV := hid hV
          clear hV hv
          go_wp2_with fail
          refine (rreadlow_any c 4 _ hf (by omega) (by omega)).mono ?_; rintro e w5 ⟨rfl, hw5⟩
          rw [HV.out]
          have S5 := hS4.out.ext hw5
          obtain ⟨p0, p1, p2, p3, u0, u1, u2, u3⟩ := blk4 S5.doc
          have S6 := S5.put (c.take 4)
          have hS6 := hid S6
          have hf6 := Cu.take_fit hf 4
          clear hw5 S5 S6
          unfold agg
          go_wp2_with fail
          obtain ⟨p0, p1, p2, p3, u0, u1, u2, u3⟩ := blk4 hS6.out.doc
          go_quiet ((first
            | (go_at_call 24; exact err_quiet b _ _ _ hS6.out.cur)
            | (go_at_call 25; exact at_quiet b _ _ _ hS6.out.cur)))
          go_wp2_with fail
          go_roundw
          case rel => exact ⟨k + 1, c.take 4, by omega, by go_num, hf6, hS6.out.drewN _⟩
          case measure => simp [intOf] <;> omega
        have c0 : (m % 3 == 0) = false := by simpa using k0
        by_cases k1 : m % 3 = 1
        · have c1 : (m % 3 == 1) = true := by simpa using k1
          clear k0 k1
          go_wp2_with fail
          refine (readlow64_any b c _ hS.out.cur hf).mono ?_; rintro e w4 ⟨rfl, hc4, hg4⟩
          have S4 := hS.out.move hc4 hg4
          obtain ⟨p0, p1, p2, p3, u0, u1, u2, u3⟩ := blk4 S4.doc
          have hS4 := hid S4
          clear hc4 hg4 S4
          have V0 : 0 ≤ valL (c.text 8) := valL_nonneg _
          have V1 : valL (c.text 8) ≤ 18446744073709551615 := by have h1 := Cu.text_len c 8; have h2 := valL_lt_le (c.text 8) 8 (by simpa using h1); omega
          have hv := hid (rfl : valL (c.text 8) = valL (c.text 8))
          obtain ⟨V, hV⟩ : ∃ V, valL (c.text 8) = V := ⟨_, rfl⟩
          rw [hV] at V0 V1 ⊢
          have HV := hid hV
          clear hV hv
          go_wp2_with fail
          refine (rreadlow_any c 8 _ hf (by omega) (by omega)).mono ?_; rintro e w5 ⟨rfl, hw5⟩
          rw [HV.out]
          have S5 := hS4.out.ext hw5
          obtain ⟨p0, p1, p2, p3, u0, u1, u2, u3⟩ := blk4 S5.doc
          have S6 := S5.put (c.take 8)
          have hS6 := hid S6
          have hf6 := Cu.take_fit hf 8
          clear hw5 S5 S6
          unfold agg
          go_wp2_with fail
          obtain ⟨p0, p1, p2, p3, u0, u1, u2, u3⟩ := blk4 hS6.out.doc
          go_quiet ((first
            | (go_at_call 24; exact err_quiet b _ _ _ hS6.out.cur)
            | (go_at_call 25; exact at_quiet b _ _ _ hS6.out.cur)))
          go_wp2_with fail
          go_roundw
          case rel => exact ⟨k + 1, c.take 8, by omega, by go_num, hf6, hS6.out.drewN _⟩
          case measure => simp [intOf] <;> omega
        have c1 : (m % 3 == 1) = false := by simpa using k1
        clear k0 k1
        go_wp2_with fail
        refine (readhigh64_any b c _ hS.out.cur hf).mono ?_; rintro e w4 ⟨rfl, hc4, hg4⟩
        have S4 := hS.out.move hc4 hg4
        obtain ⟨p0, p1, p2, p3, u0, u1, u2, u3⟩ := blk4 S4.doc
        have hS4 := hid S4
        clear hc4 hg4 S4
        have V0 : 0 ≤ valH (c.text 8) := valL_nonneg _
        have V1 : valH (c.text 8) ≤ 18446744073709551615 := by have h1 := Cu.text_len c 8; have h2 := valL_lt_le (c.text 8).reverse 8 (by simp; simpa using h1); unfold valH; omega
        have hv := hid (rfl : valH (c.text 8) = valH (c.text 8))
        obtain ⟨V, hV⟩ : ∃ V, valH (c.text 8) = V := ⟨_, rfl⟩
        rw [hV] at V0 V1 ⊢
        have HV := hid hV
        clear hV hv
        go_wp2_with fail
        refine (rreadhigh_any c 8 _ hf (by omega) (by omega)).mono ?_; rintro e w5 ⟨rfl, hw5⟩
        rw [HV.out]
        have S5 := hS4.out.ext hw5
        obtain ⟨p0, p1, p2, p3, u0, u1, u2, u3⟩ := blk4 S5.doc
        have S6 := S5.put (c.take 8)
        have hS6 := hid S6
        have hf6 := Cu.take_fit hf 8
        clear hw5 S5 S6
        unfold agg
        go_wp2_with fail
        obtain ⟨p0, p1, p2, p3, u0, u1, u2, u3⟩ := blk4 hS6.out.doc
        go_quiet ((first
          | (go_at_call 24; exact err_quiet b _ _ _ hS6.out.cur)
          | (go_at_call 25; exact at_quiet b _ _ _ hS6.out.cur)))
        go_wp2_with fail
        go_roundw
        case rel => exact ⟨k + 1, c.take 8, by omega, by go_num, hf6, hS6.out.drewN _⟩
        case measure => simp [intOf] <;> omega
      · go_wp2_with fail
        refine (wworks_any _ (hh.ext hS.out.bel)).mono ?_; rintro e w10 ⟨rfl, hw10⟩
        go_wp2_with fail
        go_ret
        exact ⟨rfl, hS.out.bel.trans (hw10.mono hS.out.bel.size)⟩
end Go.Proofs.YtlibnfkehcpdkaaDoor
