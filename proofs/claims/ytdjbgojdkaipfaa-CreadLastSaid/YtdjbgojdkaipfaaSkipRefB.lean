/-
  Walks of the reference of package cskip: values within, lists, maps, structs.
-/
import Derived.Test.YtdjbgojdkaipfaaSkipRef
namespace Go.Proofs.Ytdjbgojdkaipfaa
open Go.RowKit

def RValOk (n : Nat) : Prop := ∀ (c : Cu) (kind deep : Int) (w : World), c.fit → 0 ≤ kind → kind ≤ 255 → 0 ≤ deep → deep ≤ 1000 → (32 - deep).toNat = n →
  Calls Try.prog 77 #[agg c, .int .u8 kind, .int .i64 deep] w fun e w' => RK (skipV n kind) c w e w'
def RInOk (n : Nat) : Prop := ∀ (c : Cu) (kind deep : Int) (w : World), c.fit → 0 ≤ kind → kind ≤ 255 → 0 ≤ deep → deep ≤ 1000 → (32 - deep).toNat = n →
  Calls Try.prog 78 #[agg c, .int .u8 kind, .int .i64 deep] w fun e w' => RK (innerR (skipV n) kind) c w e w'
set_option maxRecDepth 100000 in
set_option maxHeartbeats 1000000 in
theorem rtruth_at (k : Int) (hk : k = 1 ∨ k = 2) (c : Cu) (deep : Int) (w : World) (hf : c.fit) :
    Calls Try.prog 78 #[agg c, .int .u8 k, .int .i64 deep] w fun e w' => RK truthR c w e w' := by
  have R0 := R2.new w c
  have hk1 : (k != 1) = true ∧ (k != 2) = false ∨ (k != 1) = false := by rcases hk with rfl | rfl <;> decide
  clear hk
  by_cases hc0 : c.code = 0
  case neg =>
    have HC := hid hc0
    have HT := hid (Cu.take_bad hc0 1)
    have HY := hid (show c.byte = 0 by simp [Cu.byte, Cu.why, hc0])
    clear hc0
    unfold agg
    rcases hk1 with ⟨q1, q2⟩ | q1
    · go_enter Try.func78, Try.ntmps78
      go_wp2_with fail
      refine (rbyte_any c _ hf).mono ?_; rintro e w1 ⟨rfl, hw1⟩
      rw [HT.out, HY.out]
      have R1 := R0.ext hw1
      obtain ⟨⟨p0, p1, p2, p3, f0, f1, f2, f3⟩, ⟨r0, r1, r2, r3, g0, g1, g2, g3⟩, z0, z1⟩ := R1.cells
      have HR1 := hid R1
      clear R0 R1 hw1
      unfold agg
      simp only []
      go_wp2_with fail
      exact bodyPost_ret (v := .agg #[Sv c.s, .int .i64 c.pos, .int .i64 c.en, .int .i64 c.code]) (by simp only [results, Try.results78]; go_simp) rfl
        (RK.mk (c' := c) (RdF.stay _ hf HC.out) (by ((repeat (first | (with_reducible refine Below.drew ?_) | (with_reducible refine Below.setCell ?_ (by simp <;> omega) _) | (with_reducible refine Below.alloc ?_ (by simp <;> omega) _))); exact (HR1).out.bel)))
    · go_enter Try.func78, Try.ntmps78
      go_wp2_with fail
      refine (rbyte_any c _ hf).mono ?_; rintro e w1 ⟨rfl, hw1⟩
      rw [HT.out, HY.out]
      have R1 := R0.ext hw1
      obtain ⟨⟨p0, p1, p2, p3, f0, f1, f2, f3⟩, ⟨r0, r1, r2, r3, g0, g1, g2, g3⟩, z0, z1⟩ := R1.cells
      have HR1 := hid R1
      clear R0 R1 hw1
      unfold agg
      simp only []
      go_wp2_with fail
      exact bodyPost_ret (v := .agg #[Sv c.s, .int .i64 c.pos, .int .i64 c.en, .int .i64 c.code]) (by simp only [results, Try.results78]; go_simp) rfl
        (RK.mk (c' := c) (RdF.stay _ hf HC.out) (by ((repeat (first | (with_reducible refine Below.drew ?_) | (with_reducible refine Below.setCell ?_ (by simp <;> omega) _) | (with_reducible refine Below.alloc ?_ (by simp <;> omega) _))); exact (HR1).out.bel)))
  have HC := hid hc0
  by_cases hlt : c.pos < c.en
  case neg =>
    obtain ⟨ht, hb⟩ := Cu.take_cut hc0 hlt
    have HT := hid ht
    have HY := hid hb
    have HA := hid (ahead_nil hlt)
    clear hc0 ht hb
    unfold agg
    rcases hk1 with ⟨q1, q2⟩ | q1
    · go_enter Try.func78, Try.ntmps78
      go_wp2_with fail
      refine (rbyte_any c _ hf).mono ?_; rintro e w1 ⟨rfl, hw1⟩
      rw [HT.out, HY.out]
      have R1 := R0.ext hw1
      obtain ⟨⟨p0, p1, p2, p3, f0, f1, f2, f3⟩, ⟨r0, r1, r2, r3, g0, g1, g2, g3⟩, z0, z1⟩ := R1.cells
      have HR1 := hid R1
      clear R0 R1 hw1
      unfold agg
      simp only []
      go_wp2_with fail
      exact bodyPost_ret (v := .agg #[Sv c.s, .int .i64 c.pos, .int .i64 c.en, .int .i64 1]) (by simp only [results, Try.results78]; go_simp) rfl
        (RK.mk (c' := { c with code := 1 }) ⟨rfl, rfl, ⟨hf.le1, hf.le2, hf.le3⟩, fun h => absurd HC.out h, fun _ => by rw [HA.out]; exact ⟨rfl, fun hz => absurd hz (by decide)⟩⟩ (by ((repeat (first | (with_reducible refine Below.drew ?_) | (with_reducible refine Below.setCell ?_ (by simp <;> omega) _) | (with_reducible refine Below.alloc ?_ (by simp <;> omega) _))); exact (HR1).out.bel)))
    · go_enter Try.func78, Try.ntmps78
      go_wp2_with fail
      refine (rbyte_any c _ hf).mono ?_; rintro e w1 ⟨rfl, hw1⟩
      rw [HT.out, HY.out]
      have R1 := R0.ext hw1
      obtain ⟨⟨p0, p1, p2, p3, f0, f1, f2, f3⟩, ⟨r0, r1, r2, r3, g0, g1, g2, g3⟩, z0, z1⟩ := R1.cells
      have HR1 := hid R1
      clear R0 R1 hw1
      unfold agg
      simp only []
      go_wp2_with fail
      exact bodyPost_ret (v := .agg #[Sv c.s, .int .i64 c.pos, .int .i64 c.en, .int .i64 1]) (by simp only [results, Try.results78]; go_simp) rfl
        (RK.mk (c' := { c with code := 1 }) ⟨rfl, rfl, ⟨hf.le1, hf.le2, hf.le3⟩, fun h => absurd HC.out h, fun _ => by rw [HA.out]; exact ⟨rfl, fun hz => absurd hz (by decide)⟩⟩ (by ((repeat (first | (with_reducible refine Below.drew ?_) | (with_reducible refine Below.setCell ?_ (by simp <;> omega) _) | (with_reducible refine Below.alloc ?_ (by simp <;> omega) _))); exact (HR1).out.bel)))
  obtain ⟨ht, hb⟩ := Cu.take_ok hc0 hlt
  have hf1 : ({ c with pos := c.pos + 1 } : Cu).fit := ⟨hlt, hf.le2, hf.le3⟩
  have HTR := hid (truthR_at hlt hf)
  have HT := hid ht
  have HY := hid hb
  generalize hN : byteAt c.s c.pos = N at HTR HY
  clear hc0 ht hb hN
  by_cases h2 : 2 < N
  · have HQ := hid (show truthR c.ahead = (3, 0) by rw [HTR.out, if_pos h2])
    unfold agg
    rcases hk1 with ⟨q1, q2⟩ | q1
    · go_enter Try.func78, Try.ntmps78
      go_wp2_with fail
      refine (rbyte_any c _ hf).mono ?_; rintro e w1 ⟨rfl, hw1⟩
      rw [HT.out, HY.out]
      have R1 := R0.ext hw1
      obtain ⟨⟨p0, p1, p2, p3, f0, f1, f2, f3⟩, ⟨r0, r1, r2, r3, g0, g1, g2, g3⟩, z0, z1⟩ := R1.cells
      have HR1 := hid (R1.put { c with pos := c.pos + 1 })
      clear R0 R1 hw1
      unfold agg
      simp only []
      go_wp2_with fail
      refine (rfail_any { c with pos := c.pos + 1 } 3 _).mono ?_; rintro e w2 ⟨rfl, hw2⟩
      rw [fail_at _ HC.out]
      have R3 := HR1.out.ext hw2
      obtain ⟨⟨p0, p1, p2, p3, f0, f1, f2, f3⟩, ⟨r0, r1, r2, r3, g0, g1, g2, g3⟩, z0, z1⟩ := R3.cells
      have HR2 := hid R3
      clear R3 hw2 HR1
      unfold agg
      simp only []
      go_wp2_with fail
      exact bodyPost_ret (v := .agg #[Sv c.s, .int .i64 (c.pos + 1 : Nat), .int .i64 c.en, .int .i64 3]) (by simp only [results, Try.results78]; go_simp) rfl
        (RK.mk (c' := { c with pos := c.pos + 1, code := 3 }) ⟨rfl, rfl, ⟨hf1.le1, hf1.le2, hf1.le3⟩, fun h => absurd HC.out h, fun _ => by rw [HQ.out]; exact ⟨rfl, fun hz => absurd hz (by decide)⟩⟩ (by ((repeat (first | (with_reducible refine Below.drew ?_) | (with_reducible refine Below.setCell ?_ (by simp <;> omega) _) | (with_reducible refine Below.alloc ?_ (by simp <;> omega) _))); exact (HR2).out.bel)))
    · go_enter Try.func78, Try.ntmps78
      go_wp2_with fail
      refine (rbyte_any c _ hf).mono ?_; rintro e w1 ⟨rfl, hw1⟩
      rw [HT.out, HY.out]
      have R1 := R0.ext hw1
      obtain ⟨⟨p0, p1, p2, p3, f0, f1, f2, f3⟩, ⟨r0, r1, r2, r3, g0, g1, g2, g3⟩, z0, z1⟩ := R1.cells
      have HR1 := hid (R1.put { c with pos := c.pos + 1 })
      clear R0 R1 hw1
      unfold agg
      simp only []
      go_wp2_with fail
      refine (rfail_any { c with pos := c.pos + 1 } 3 _).mono ?_; rintro e w2 ⟨rfl, hw2⟩
      rw [fail_at _ HC.out]
      have R3 := HR1.out.ext hw2
      obtain ⟨⟨p0, p1, p2, p3, f0, f1, f2, f3⟩, ⟨r0, r1, r2, r3, g0, g1, g2, g3⟩, z0, z1⟩ := R3.cells
      have HR2 := hid R3
      clear R3 hw2 HR1
      unfold agg
      simp only []
      go_wp2_with fail
      exact bodyPost_ret (v := .agg #[Sv c.s, .int .i64 (c.pos + 1 : Nat), .int .i64 c.en, .int .i64 3]) (by simp only [results, Try.results78]; go_simp) rfl
        (RK.mk (c' := { c with pos := c.pos + 1, code := 3 }) ⟨rfl, rfl, ⟨hf1.le1, hf1.le2, hf1.le3⟩, fun h => absurd HC.out h, fun _ => by rw [HQ.out]; exact ⟨rfl, fun hz => absurd hz (by decide)⟩⟩ (by ((repeat (first | (with_reducible refine Below.drew ?_) | (with_reducible refine Below.setCell ?_ (by simp <;> omega) _) | (with_reducible refine Below.alloc ?_ (by simp <;> omega) _))); exact (HR2).out.bel)))
  · have HQ := hid (show truthR c.ahead = (0, 1) by rw [HTR.out, if_neg h2])
    unfold agg
    rcases hk1 with ⟨q1, q2⟩ | q1
    · go_enter Try.func78, Try.ntmps78
      go_wp2_with fail
      refine (rbyte_any c _ hf).mono ?_; rintro e w1 ⟨rfl, hw1⟩
      rw [HT.out, HY.out]
      have R1 := R0.ext hw1
      obtain ⟨⟨p0, p1, p2, p3, f0, f1, f2, f3⟩, ⟨r0, r1, r2, r3, g0, g1, g2, g3⟩, z0, z1⟩ := R1.cells
      have HR1 := hid R1
      clear R0 R1 hw1
      unfold agg
      simp only []
      go_wp2_with fail
      exact bodyPost_ret (v := .agg #[Sv c.s, .int .i64 (c.pos + 1 : Nat), .int .i64 c.en, .int .i64 c.code]) (by simp only [results, Try.results78]; go_simp) rfl
        (RK.mk (c' := { c with pos := c.pos + 1 }) ⟨rfl, rfl, hf1, fun h => absurd HC.out h, fun _ => by rw [HQ.out]; exact ⟨HC.out, fun _ => rfl⟩⟩ (by ((repeat (first | (with_reducible refine Below.drew ?_) | (with_reducible refine Below.setCell ?_ (by simp <;> omega) _) | (with_reducible refine Below.alloc ?_ (by simp <;> omega) _))); exact (HR1).out.bel)))
    · go_enter Try.func78, Try.ntmps78
      go_wp2_with fail
      refine (rbyte_any c _ hf).mono ?_; rintro e w1 ⟨rfl, hw1⟩
      rw [HT.out, HY.out]
      have R1 := R0.ext hw1
      obtain ⟨⟨p0, p1, p2, p3, f0, f1, f2, f3⟩, ⟨r0, r1, r2, r3, g0, g1, g2, g3⟩, z0, z1⟩ := R1.cells
      have HR1 := hid R1
      clear R0 R1 hw1
      unfold agg
      simp only []
      go_wp2_with fail
      exact bodyPost_ret (v := .agg #[Sv c.s, .int .i64 (c.pos + 1 : Nat), .int .i64 c.en, .int .i64 c.code]) (by simp only [results, Try.results78]; go_simp) rfl
        (RK.mk (c' := { c with pos := c.pos + 1 }) ⟨rfl, rfl, hf1, fun h => absurd HC.out h, fun _ => by rw [HQ.out]; exact ⟨HC.out, fun _ => rfl⟩⟩ (by ((repeat (first | (with_reducible refine Below.drew ?_) | (with_reducible refine Below.setCell ?_ (by simp <;> omega) _) | (with_reducible refine Below.alloc ?_ (by simp <;> omega) _))); exact (HR1).out.bel)))
set_option maxRecDepth 100000 in
set_option maxHeartbeats 1000000 in
theorem rinner_of {n : Nat} (hv : RValOk n) : RInOk n := by
  intro c kind deep w hf k0 k1 d0 d1 hn
  by_cases hk : kind = 1 ∨ kind = 2
  · have e : innerR (skipV n) kind = truthR := funext fun a => by rw [innerR, if_pos hk]
    rw [e]
    exact rtruth_at kind hk c deep w hf
  · have HR := hid (show innerR (skipV n) kind = skipV n kind from funext fun a => by rw [innerR, if_neg hk])
    have q1 : (kind != 1) = true := by rw [bne_iff_ne]; exact fun h => hk (Or.inl h)
    have q2 : (kind != 2) = true := by rw [bne_iff_ne]; exact fun h => hk (Or.inr h)
    have R0 := R2.new w c
    have HV := hid hv
    have HN := hid hn
    clear hk hv hn
    unfold agg
    go_enter Try.func78, Try.ntmps78
    go_wp2_with fail
    refine (HV.out c kind deep _ hf k0 k1 d0 d1 HN.out).mono ?_; rintro e w1 ⟨c2, rfl, hr, hw1⟩
    have R1 := R0.ext hw1
    obtain ⟨⟨p0, p1, p2, p3, f0, f1, f2, f3⟩, ⟨r0, r1, r2, r3, g0, g1, g2, g3⟩, z0, z1⟩ := R1.cells
    have HR1 := hid R1
    have HRR := hid hr
    clear R0 R1 hw1 hr
    unfold agg
    simp only []
    go_wp2_with fail
    exact bodyPost_ret (v := .agg #[Sv c2.s, .int .i64 c2.pos, .int .i64 c2.en, .int .i64 c2.code]) (by simp only [results, Try.results78]; go_simp) rfl
      (RK.mk (c' := c2) (by rw [HR.out]; exact HRR.out) (by ((repeat (first | (with_reducible refine Below.drew ?_) | (with_reducible refine Below.setCell ?_ (by simp <;> omega) _) | (with_reducible refine Below.alloc ?_ (by simp <;> omega) _))); exact (HR1).out.bel)))
def twoR (v : Int → List UInt8 → Int × Nat) (a b : Int) : List UInt8 → Int × Nat := if b = 0 then innerR v a else pairR v a b
def VRl (T f : List UInt8 → Int × Nat) (n : Nat) (w : World) (c0 : Cu) (i : Value) (wr : World) : Prop :=
  ∃ (k : Nat) (c : Cu), k ≤ n ∧ i = .int .i64 (k : Int) ∧ Hid (Left T (itemsR f (n - k)) c0 c) ∧ Hid (R2 w wr c ⟨[], 0, 0, 0⟩)
theorem left_self {T : List UInt8 → Int × Nat} {c : Cu} (hf : c.fit) : Left T T c c := ⟨hf, fun _ h => h⟩
set_option maxRecDepth 100000 in
set_option maxHeartbeats 2000000 in
theorem rvalues_of {n : Nat} (hi : RInOk n) (c : Cu) (M : Nat) (a b deep : Int) (w : World) (hf : c.fit) (hM : M ≤ 2147483647) (a0 : 0 ≤ a) (a1 : a ≤ 255) (b0 : 0 ≤ b) (b1 : b ≤ 255) (d0 : 0 ≤ deep) (d1 : deep ≤ 1000) (hn : (32 - deep).toNat = n) :
    Calls Try.prog 133 #[agg c, .int .i64 (M : Int), .int .u8 a, .int .u8 b, .int .i64 deep] w fun e w' => RK (itemsR (twoR (skipV n) a b) M) c w e w' := by
  have R0 := R2.new w c
  have hrel0 : VRl (itemsR (twoR (skipV n) a b) M) (twoR (skipV n) a b) M w c (.int .i64 0) ((w.alloc (.cells #[Sv c.s, .int .i64 c.pos, .int .i64 c.en, .int .i64 c.code] 78)).alloc (.cells #[Sv [], .int .i64 0, .int .i64 0, .int .i64 0] 78)) :=
    ⟨0, c, Nat.zero_le _, rfl, hid (left_self hf), hid R0⟩
  have HI := hid hi
  have HN := hid hn
  clear R0 hi hn
  unfold agg
  go_enter Try.func133, Try.ntmps133
  go_wp2_with fail
  try simp only [string_Sv]
  go_loopw [11] (fun i wr => VRl (itemsR (twoR (skipV n) a b) M) (twoR (skipV n) a b) M w c i wr) (fun i _ => M - (intOf i).toNat)
  case atStart => exact hrel0
  case round =>
    clear hrel0
    obtain ⟨k, ci, hk, rfl, HL, HRi⟩ := hrel
    obtain ⟨⟨p0, p1, p2, p3, f0, f1, f2, f3⟩, ⟨r0, r1, r2, r3, g0, g1, g2, g3⟩, z0, z1⟩ := HRi.out.cells
    by_cases hlt : k < M
    · by_cases hz : ci.code = 0
      · have hz1 : (ci.code == 0) = true := by simpa using hz
        have HL2 := hid (show Left (itemsR (twoR (skipV n) a b) M) (fun x => seqR (twoR (skipV n) a b x) (itemsR (twoR (skipV n) a b) (M - (k + 1))) x) c ci by
          have := HL.out
          rw [show M - k = (M - (k + 1)) + 1 by omega] at this
          exact this)
        clear hz HL
        go_wp2_with fail
        refine (HI.out ci a deep _ HL2.out.1 a0 a1 d0 d1 HN.out).mono ?_; rintro e w3 ⟨c3, rfl, hr3, hw3⟩
        have R3 := HRi.out.ext hw3
        have HP3 := hid (R3.put c3)
        have HR3 := hid hr3
        clear p0 p1 p2 p3 f0 f1 f2 f3 r0 r1 r2 r3 g0 g1 g2 g3 z0 z1
        obtain ⟨⟨p0, p1, p2, p3, f0, f1, f2, f3⟩, ⟨r0, r1, r2, r3, g0, g1, g2, g3⟩, z0, z1⟩ := R3.cells
        clear hr3 hw3 HRi R3
        unfold agg
        by_cases hb : b = 0
        · have hb1 : (b != 0) = false := by rw [bne_eq_false_iff_eq]; exact hb
          have HL3 := hid (HL2.out.step (R := twoR (skipV n) a b) (c1 := c3) (by rw [twoR, if_pos hb]; exact HR3.out))
          clear hb
          go_wp2_with fail
          go_roundw
          case rel => exact ⟨k + 1, c3, by omega, by go_num, HL3, HP3⟩
          case measure => simp [intOf] <;> omega
        · have hb1 : (b != 0) = true := by rw [bne_iff_ne]; exact hb
          have HB := hid hb
          clear hb
          go_wp2_with fail
          clear p0 p1 p2 p3 f0 f1 f2 f3 r0 r1 r2 r3 g0 g1 g2 g3 z0 z1
          refine (HI.out c3 b deep _ HR3.out.fit b0 b1 d0 d1 HN.out).mono ?_; rintro e w4 ⟨c4, rfl, hr4, hw4⟩
          have R4 := HP3.out.ext hw4
          have HP4 := hid (R4.put c4)
          have HL4 := hid (HL2.out.step (R := twoR (skipV n) a b) (c1 := c4) (by rw [twoR, if_neg HB.out]; exact HR3.out.seq hr4))
          obtain ⟨⟨p0, p1, p2, p3, f0, f1, f2, f3⟩, ⟨r0, r1, r2, r3, g0, g1, g2, g3⟩, z0, z1⟩ := R4.cells
          clear hr4 hw4 R4 HP3
          unfold agg
          go_wp2_with fail
          go_roundw
          case rel => exact ⟨k + 1, c4, by omega, by go_num, HL4, HP4⟩
          case measure => simp [intOf] <;> omega
      · have hz1 : (ci.code == 0) = false := by simpa using hz
        have HZ := hid hz
        clear hz
        go_wp2_with fail
        exact bodyPost_ret (v := .agg #[Sv ci.s, .int .i64 ci.pos, .int .i64 ci.en, .int .i64 ci.code]) (by simp only [results, Try.results133]; go_simp) rfl
          (RK.mk (c' := ci) (HL.out.stop HZ.out) (by ((repeat (first | (with_reducible refine Below.drew ?_) | (with_reducible refine Below.setCell ?_ (by simp <;> omega) _) | (with_reducible refine Below.alloc ?_ (by simp <;> omega) _))); exact (HRi).out.bel)))
    · have hkM : k = M := by omega
      subst hkM
      go_wp2_with fail
      exact bodyPost_ret (v := .agg #[Sv ci.s, .int .i64 ci.pos, .int .i64 ci.en, .int .i64 ci.code]) (by simp only [results, Try.results133]; go_simp) rfl
        (RK.mk (c' := ci) (by have := HL.out; rw [Nat.sub_self] at this; exact this.done) (by ((repeat (first | (with_reducible refine Below.drew ?_) | (with_reducible refine Below.setCell ?_ (by simp <;> omega) _) | (with_reducible refine Below.alloc ?_ (by simp <;> omega) _))); exact (HRi).out.bel)))
end Go.Proofs.Ytdjbgojdkaipfaa
