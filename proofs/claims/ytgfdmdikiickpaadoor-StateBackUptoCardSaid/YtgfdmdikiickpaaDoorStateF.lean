/-
  Walks of the reference of package state: a key's value, whether members are the same; members from one type to the other.
-/
import Derived.Test.YtgfdmdikiickpaaDoorMembs
import Derived.Test.YtgfdmdikiickpaaDoorStateD
namespace Go.Proofs.YtgfdmdikiickpaaDoor
open Go.RowKit

theorem neq_of {m m' : Mb} : (!(m == m')) = (!(m.1 == m'.1) || !(m.2 == m'.2)) := by
  obtain ⟨a, b⟩ := m
  obtain ⟨c, d⟩ := m'
  show (!((a == c) && (b == d))) = _
  cases (a == c) <;> cases (b == d) <;> rfl
def IdxRelR (w : World) (L : List Mb) (key : List UInt8) (i : Value) (wr : World) : Prop := ∃ k : Nat, i = .int .i64 (k : Int) ∧ k ≤ L.length ∧ Hid (hasM (L.take k) key = false) ∧ wr = w
set_option maxRecDepth 100000 in
set_option maxHeartbeats 1000000 in
theorem rget44_any (A : Option Addr) (cap : Nat) (L : List Mb) (key : List UInt8) (w : World) (h : Mbs w w.heap.size A L) (hl : L.length ≤ 1000000) :
    Calls Tryd.prog 34 #[.slice A L.length cap, Sv key] w fun e w' => e = .returned (.tuple #[Sv (getM L key), .bool (hasM L key)]) ∧ w = w' := by
  have HO := hid h
  clear h
  go_enter Tryd.func34, Tryd.ntmps34
  go_wp2_with fail
  go_loopw [6] (fun i wr => IdxRelR w L key i wr) (fun i _ => L.length - (intOf i).toNat)
  case atStart => exact ⟨0, rfl, Nat.zero_le _, hid rfl, rfl⟩
  case round =>
    obtain ⟨k, rfl, hk, HN, rfl⟩ := hrel
    by_cases hlk : k < L.length
    · obtain ⟨m, hm⟩ := get_lt hlk
      obtain ⟨ad, hA, p0, p1⟩ := HO.out.at_ hm
      have HM := hid hm
      clear hm
      subst hA
      have qi : (0 : Int) ≤ (k : Int) ∧ (k : Int) < (L.length : Int) := by omega
      obtain ⟨b, hb⟩ : ∃ b, (m.1 == key) = b := ⟨_, rfl⟩
      have HBB := hid hb
      cases b with
      | true =>
        have HR := hid (idxM_hit HM.out HBB.out HN.out).2
        go_wp2_with fail
        go_ret2
        exact ⟨by rw [HR.out.1, HR.out.2]; rfl, rfl⟩
      | false =>
        have HN2 := hid (show hasM (L.take (k + 1)) key = false by rw [take_snoc_at HM.out, hasM_snoc, HN.out, HBB.out]; rfl)
        go_wp2_with fail
        refine ⟨⟨k + 1, by go_num, hlk, HN2, rfl⟩, by simp [intOf] <;> omega⟩
    · obtain rfl : k = L.length := by omega
      have hno : hasM L key = false := by have := HN.out; rwa [List.take_length] at this
      have HH := hid hno
      have HR := hid (idxM_miss hno).2
      clear hno
      go_wp2_with fail
      go_ret2
      exact ⟨by rw [HR.out, HH.out]; rfl, rfl⟩
theorem guard_rm : Tryd.prog.eqGuardType Tryd.prog.depth 100 = false := by kernel_rfl
@[go_sem] theorem run_eqGuard_rm (w : World) (op : BinOp) (x y : Operand) (a b c d : List UInt8) : (eqGuard op 100 x y (.agg #[Sv a, Sv b]) (.agg #[Sv c, Sv d])).run Tryd.prog w = .ok () w := run_eqGuard_agg w op _ x y _ _ guard_rm
set_option maxRecDepth 100000 in
theorem run_neq_rm (u : World) (a b c d : List UInt8) : (binOp .neq 100 (.agg #[Sv a, Sv b]) (.agg #[Sv c, Sv d])).run Tryd.prog u = .ok (.bool (!(a == c) || !(b == d))) u := by
  by_cases h : (a == c) = true
  · by_cases h2 : (b == d) = true
    · have e : b = d := by simpa using h2
      subst e
      go_simp
    · have h2' : (b == d) = false := by simpa using h2
      have e : ¬ b = d := by simpa using h2
      go_simp
  · have h' : (a == c) = false := by simpa using h
    go_simp
theorem load_rm (w : World) (p : Addr) (m : Mb) (h0 : w.cell? p = some (Sv m.1)) (h1 : w.cell? ⟨p.block, p.off + 1, none⟩ = some (Sv m.2)) : (Instr.loadAt 100 (.pointer (some p))).run Tryd.prog w = .ok (.agg #[Sv m.1, Sv m.2]) w := by
  go_simp
def SameRel (w : World) (L M : List Mb) (i : Value) (wr : World) : Prop := ∃ k : Nat, i = .int .i64 (k : Int) ∧ k ≤ L.length ∧ Hid (L.take k = M.take k) ∧ Hid (Below w.heap.size w wr)
set_option maxRecDepth 100000 in
set_option maxHeartbeats 1000000 in
theorem rsame_any (A A' : Option Addr) (cap cap' : Nat) (L M : List Mb) (w : World) (h : Mbs w w.heap.size A L) (h' : Mbs w w.heap.size A' M) (hl : L.length ≤ 1000000) :
    Calls Tryd.prog 22 #[.slice A L.length cap, .slice A' M.length cap'] w fun e w' => e = .returned (.bool (decide (L = M))) ∧ Below w.heap.size w w' := by
  have HO := hid h
  have HO' := hid h'
  clear h h'
  by_cases hlen : L.length = M.length
  · have HL := hid hlen
    have e1 : M.length = L.length := hlen.symm
    rw [e1]
    clear e1 hlen
    go_enter Tryd.func22, Tryd.ntmps22
    go_wp2_with fail
    go_loopw [5] (fun i wr => SameRel w L M i wr) (fun i _ => L.length - (intOf i).toNat)
    case atStart => exact ⟨0, rfl, Nat.zero_le _, hid rfl, hid (Below.refl _ _)⟩
    case round =>
      obtain ⟨k, rfl, hk, HT, HB⟩ := hrel
      by_cases hlk : k < L.length
      · obtain ⟨m, hm⟩ := get_lt hlk
        obtain ⟨m', hm'⟩ := get_lt (L := M) (k := k) (by have := HL.out; omega)
        obtain ⟨ad, hA, _⟩ := (HO.out.below HB.out).at_ hm
        obtain ⟨ad', hA', _⟩ := (HO'.out.below HB.out).at_ hm'
        have HM := hid hm
        have HM' := hid hm'
        clear hm hm'
        subst hA hA'
        have qi : (0 : Int) ≤ (k : Int) ∧ (k : Int) < (L.length : Int) := by omega
        go_upto_region 6 with fail
        refine region_steady (fun u => Below w.heap.size w u) (by kernel_rfl) (by kernel_rfl) (HB.out.trans ((ext_drew wr).mono HB.out.size)) ?_
        repeat (first
          | (refine steady_off (by rfl) ?_; try simp only [Act.put, List.setIfInBounds_toArray, List.set_cons_zero, List.set_cons_succ])
          | (refine steady_pure (v := ?_) (by rfl) ?_ ?_; rotate_left; (focus (intro u; go_simp; with_reducible rfl)); try simp only [Act.put, List.setIfInBounds_toArray, List.set_cons_zero, List.set_cons_succ]))
        refine steady_load (v := .agg #[Sv m.1, Sv m.2]) 100 (.tmp 19) rfl (by rfl) (fun u h => by
          obtain ⟨a, ha, c0, c1⟩ := (HO.out.below h).at_ HM.out
          obtain rfl := Option.some.inj ha
          exact load_rm u _ m c0 c1) ?_
        try simp only [Act.put, List.setIfInBounds_toArray, List.set_cons_zero, List.set_cons_succ]
        repeat (first
          | (refine steady_off (by rfl) ?_; try simp only [Act.put, List.setIfInBounds_toArray, List.set_cons_zero, List.set_cons_succ])
          | (refine steady_pure (v := ?_) (by rfl) ?_ ?_; rotate_left; (focus (intro u; go_simp; with_reducible rfl)); try simp only [Act.put, List.setIfInBounds_toArray, List.set_cons_zero, List.set_cons_succ]))
        refine steady_load (v := .agg #[Sv m'.1, Sv m'.2]) 100 (.tmp 23) rfl (by rfl) (fun u h => by
          obtain ⟨a, ha, c0, c1⟩ := (HO'.out.below h).at_ HM'.out
          obtain rfl := Option.some.inj ha
          exact load_rm u _ m' c0 c1) ?_
        try simp only [Act.put, List.setIfInBounds_toArray, List.set_cons_zero, List.set_cons_succ]
        have qn := fun u => run_neq_rm u m.1 m.2 m'.1 m'.2
        obtain ⟨b, hb⟩ : ∃ b, (!(m.1 == m'.1) || !(m.2 == m'.2)) = b := ⟨_, rfl⟩
        simp only [hb] at qn
        rw [← neq_of] at hb
        have HBB := hid hb
        clear hb
        repeat (first
          | (refine steady_off (by rfl) ?_; try simp only [Act.put, List.setIfInBounds_toArray, List.set_cons_zero, List.set_cons_succ])
          | (refine steady_pure (v := ?_) (by rfl) ?_ ?_; rotate_left; (focus (intro u; go_simp; with_reducible rfl)); try simp only [Act.put, List.setIfInBounds_toArray, List.set_cons_zero, List.set_cons_succ]))
        refine steady_nil (fun w1 h1 => ?_)
        have HB1 := hid h1
        clear h1 qn
        cases b with
        | true =>
          have HR := hid (show decide (L = M) = false by
            rw [decide_eq_false_iff_not]
            rintro rfl
            have := HM.out.symm.trans HM'.out
            obtain rfl := Option.some.inj this
            have := HBB.out
            simp at this)
          go_wp2_with fail
          go_ret
          exact ⟨by rw [HR.out]; rfl, HB1.out⟩
        | false =>
          have HT2 := hid (show L.take (k + 1) = M.take (k + 1) by
            have e : m = m' := by have := HBB.out; simpa using this
            rw [take_snoc_at HM.out, take_snoc_at HM'.out, HT.out, e])
          go_wp2_with fail
          refine ⟨⟨k + 1, by go_num, hlk, HT2, HB1⟩, by simp [intOf] <;> omega⟩
      · obtain rfl : k = L.length := by omega
        have HR := hid (show decide (L = M) = true by
          rw [decide_eq_true_eq]
          have := HT.out
          rw [List.take_length, HL.out, List.take_length] at this
          exact this)
        go_wp2_with fail
        go_ret
        exact ⟨by rw [HR.out]; rfl, HB.out⟩
  · have HR := hid (show decide (L = M) = false by
      rw [decide_eq_false_iff_not]
      rintro rfl
      exact hlen rfl)
    have q : ((L.length : Int) == (M.length : Int)) = false := by rw [beq_eq_false_iff_ne]; omega
    go_enter Tryd.func22, Tryd.ntmps22
    go_wp2_with fail
    go_ret
    exact ⟨by rw [HR.out]; rfl, Below.refl _ _⟩
end Go.Proofs.YtgfdmdikiickpaaDoor
