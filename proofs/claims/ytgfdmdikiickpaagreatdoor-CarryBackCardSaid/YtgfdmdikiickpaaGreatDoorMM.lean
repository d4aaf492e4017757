/-
  Texts for the laws of this seat, merged: CarryG, CarryI, CarryK.
-/
import Derived.Test.YtgfdmdikiickpaaGreatDoorMA
import Derived.Test.YtgfdmdikiickpaaGreatDoorMC
import Derived.Test.YtgfdmdikiickpaaGreatDoorMF
import Derived.Test.YtgfdmdikiickpaaGreatDoorMG
import Derived.Test.YtgfdmdikiickpaaGreatDoorMH
import Derived.Test.YtgfdmdikiickpaaGreatDoorMJ
import Derived.Test.YtgfdmdikiickpaaGreatDoorML
/-! CarryG -/
namespace Go.Proofs.YtgfdmdikiickpaaGreatDoor
open Go.RowKit

theorem info_ch : (Tryz.prog.info? 61).map (fun i => (i.zero, i.size, i.bytes)) = some (some zM, 2, 32) := by kernel_rfl
theorem info_rh : (Tryz.prog.info? 24).map (fun i => (i.zero, i.size, i.bytes)) = some (some zM, 2, 32) := by kernel_rfl
set_option maxRecDepth 100000 in
set_option maxHeartbeats 1000000 in
theorem ownh_any (A : Option Addr) (cap : Nat) (L : List Mb) (w : World) (h : Mbs w w.heap.size A L) (hl : L.length ≤ 100000) :
    Calls Tryz.prog 8 #[.slice A L.length cap] w fun e w' => ∃ v, e = .returned v ∧ OwnM w' w.heap.size 61 v L ∧ Below w.heap.size w w' := by
  have HO := hid h
  clear h
  go_enter Tryz.func8, Tryz.ntmps8
  go_wp2_with fail
  go_loopw [3, 4] (fun v i wr => CopyRel w 61 L v i wr) (fun _ i _ => L.length - (intOf i).toNat)
  case atStart => exact ⟨_, 0, rfl, rfl, Nat.zero_le _, OwnM.nil _ _ _, Below.refl _ _⟩
  case round =>
    obtain ⟨v', k, hv, rfl, hk, HW, HB⟩ := hrel
    subst hv
    by_cases hlt : k < L.length
    · obtain ⟨m, hm⟩ := get_lt hlt
      obtain ⟨ad, hA, p0, p1⟩ := (HO.out.below HB.out).at_ hm
      have HM := hid hm
      clear hm
      subst hA
      have qi : (0 : Int) ≤ (k : Int) ∧ (k : Int) < (L.length : Int) := by omega
      have hkl : (L.take k).length ≤ 1000000 := by rw [List.length_take]; omega
      have HO7 := hid (HW.out.ext (ext_alloc wr (.cells #[Sv m.1, Sv m.2] 61)))
      have HBK := hid (Blk.new wr 61 (mcs m))
      have HB7 := hid (HB.out.alloc HB.out.size (.cells #[Sv m.1, Sv m.2] 61))
      go_wp2_with (refine wpList_appM rfl _ _ _ _ Tryz.underlying36 info_ch rfl w.heap.size v' (L.take k) rfl HO7.out wr.heap.size 1 61 m rfl HBK.out hkl HB7.out.size ?_; intro v8 w8 hown8 hg8; have HO8 := hid hown8; have HB8 := hid (show Below w.heap.size w w8 from Below.grown HB7.out hg8 HB7.out.size (fun k hk => (World.ownsRow.lt HO7.out k hk).1)); clear hown8 hg8)
      refine ⟨⟨v8, k + 1, rfl, by go_num, hlt, hid ?_, HB8⟩, by simp [intOf] <;> omega⟩
      rw [take_snoc_at HM.out]; exact HO8.out
    · obtain rfl : k = L.length := by omega
      have HW := hid (show OwnM wr w.heap.size 61 v' L by have := HW.out; rwa [List.take_length] at this)
      go_wp2_with fail
      go_ret
      exact ⟨_, rfl, HW.out, HB.out⟩
set_option maxRecDepth 100000 in
set_option maxHeartbeats 1000000 in
theorem backh_any (A : Option Addr) (cap : Nat) (L : List Mb) (w : World) (h : Mbs w w.heap.size A L) (hl : L.length ≤ 100000) :
    Calls Tryz.prog 15 #[.slice A L.length cap] w fun e w' => ∃ v, e = .returned v ∧ OwnM w' w.heap.size 24 v L ∧ Below w.heap.size w w' := by
  have HO := hid h
  clear h
  go_enter Tryz.func15, Tryz.ntmps15
  go_wp2_with fail
  go_loopw [3, 4] (fun v i wr => CopyRel w 24 L v i wr) (fun _ i _ => L.length - (intOf i).toNat)
  case atStart => exact ⟨_, 0, rfl, rfl, Nat.zero_le _, OwnM.nil _ _ _, Below.refl _ _⟩
  case round =>
    obtain ⟨v', k, hv, rfl, hk, HW, HB⟩ := hrel
    subst hv
    by_cases hlt : k < L.length
    · obtain ⟨m, hm⟩ := get_lt hlt
      obtain ⟨ad, hA, p0, p1⟩ := (HO.out.below HB.out).at_ hm
      have HM := hid hm
      clear hm
      subst hA
      have qi : (0 : Int) ≤ (k : Int) ∧ (k : Int) < (L.length : Int) := by omega
      have hkl : (L.take k).length ≤ 1000000 := by rw [List.length_take]; omega
      have HO7 := hid (HW.out.ext (ext_alloc wr (.cells #[Sv m.1, Sv m.2] 24)))
      have HBK := hid (Blk.new wr 24 (mcs m))
      have HB7 := hid (HB.out.alloc HB.out.size (.cells #[Sv m.1, Sv m.2] 24))
      go_wp2_with (refine wpList_appM rfl _ _ _ _ Tryz.underlying22 info_rh rfl w.heap.size v' (L.take k) rfl HO7.out wr.heap.size 1 24 m rfl HBK.out hkl HB7.out.size ?_; intro v8 w8 hown8 hg8; have HO8 := hid hown8; have HB8 := hid (show Below w.heap.size w w8 from Below.grown HB7.out hg8 HB7.out.size (fun k hk => (World.ownsRow.lt HO7.out k hk).1)); clear hown8 hg8)
      refine ⟨⟨v8, k + 1, rfl, by go_num, hlt, hid ?_, HB8⟩, by simp [intOf] <;> omega⟩
      rw [take_snoc_at HM.out]; exact HO8.out
    · obtain rfl : k = L.length := by omega
      have HW := hid (show OwnM wr w.heap.size 24 v' L by have := HW.out; rwa [List.take_length] at this)
      go_wp2_with fail
      go_ret
      exact ⟨_, rfl, HW.out, HB.out⟩
theorem guard_rh : Tryz.prog.eqGuardType Tryz.prog.depth 24 = false := by kernel_rfl
@[go_sem] theorem run_eqGuard_rh (w : World) (op : BinOp) (x y : Operand) (a b c d : List UInt8) : (eqGuard op 24 x y (.agg #[Sv a, Sv b]) (.agg #[Sv c, Sv d])).run Tryz.prog w = .ok () w := run_eqGuard_agg w op _ x y _ _ guard_rh
set_option maxRecDepth 100000 in
theorem run_neq_rh (u : World) (a b c d : List UInt8) : (binOp .neq 24 (.agg #[Sv a, Sv b]) (.agg #[Sv c, Sv d])).run Tryz.prog u = .ok (.bool (!(a == c) || !(b == d))) u := by
  by_cases h : (a == c) = true
  · by_cases h2 : (b == d) = true
    · have e : b = d := by simpa using h2
      subst e
      go_simp
    · have h2' : (b == d) = false := by simpa using h2
      have e : ¬ b = d := by simpa using h2
      go_simp
  · have h' : (a == c) = false := by simpa using h
    go_simp
theorem load_rh (w : World) (p : Addr) (m : Mb) (h0 : w.cell? p = some (Sv m.1)) (h1 : w.cell? ⟨p.block, p.off + 1, none⟩ = some (Sv m.2)) : (Instr.loadAt 24 (.pointer (some p))).run Tryz.prog w = .ok (.agg #[Sv m.1, Sv m.2]) w := by
  go_simp
def SameRelH (w : World) (L M : List Mb) (i : Value) (wr : World) : Prop := ∃ k : Nat, i = .int .i64 (k : Int) ∧ k ≤ L.length ∧ Hid (L.take k = M.take k) ∧ Hid (Below w.heap.size w wr)
set_option maxRecDepth 100000 in
set_option maxHeartbeats 1000000 in
theorem rsameh_any (A A' : Option Addr) (cap cap' : Nat) (L M : List Mb) (w : World) (h : Mbs w w.heap.size A L) (h' : Mbs w w.heap.size A' M) (hl : L.length ≤ 1000000) :
    Calls Tryz.prog 14 #[.slice A L.length cap, .slice A' M.length cap'] w fun e w' => e = .returned (.bool (decide (L = M))) ∧ Below w.heap.size w w' := by
  have HO := hid h
  have HO' := hid h'
  clear h h'
  by_cases hlen : L.length = M.length
  · have HL := hid hlen
    have e1 : M.length = L.length := hlen.symm
    rw [e1]
    clear e1 hlen
    go_enter Tryz.func14, Tryz.ntmps14
    go_wp2_with fail
    go_loopw [5] (fun i wr => SameRelH w L M i wr) (fun i _ => L.length - (intOf i).toNat)
    case atStart => exact ⟨0, rfl, Nat.zero_le _, hid rfl, hid (Below.refl _ _)⟩
    case round =>
      obtain ⟨k, rfl, hk, HT, HB⟩ := hrel
      by_cases hlk : k < L.length
      · obtain ⟨m, hm⟩ := get_lt hlk
        obtain ⟨m', hm'⟩ := get_lt (L := M) (k := k) (by have := HL.out; omega)
        obtain ⟨ad, hA, _⟩ := (HO.out.below HB.out).at_ hm
        obtain ⟨ad', hA', _⟩ := (HO'.out.below HB.out).at_ hm'
        have HM := hid hm
        have HM' := hid hm'
        clear hm hm'
        subst hA hA'
        have qi : (0 : Int) ≤ (k : Int) ∧ (k : Int) < (L.length : Int) := by omega
        go_upto_region 6 with fail
        refine region_steady (fun u => Below w.heap.size w u) (by kernel_rfl) (by kernel_rfl) (HB.out.trans ((ext_drew wr).mono HB.out.size)) ?_
        repeat (first
          | (refine steady_off (by rfl) ?_; try simp only [Act.put, List.setIfInBounds_toArray, List.set_cons_zero, List.set_cons_succ])
          | (refine steady_pure (v := ?_) (by rfl) ?_ ?_; rotate_left; (focus (intro u; go_simp; with_reducible rfl)); try simp only [Act.put, List.setIfInBounds_toArray, List.set_cons_zero, List.set_cons_succ]))
        refine steady_load (v := .agg #[Sv m.1, Sv m.2]) 24 (.tmp 19) rfl (by rfl) (fun u h => by
          obtain ⟨a, ha, c0, c1⟩ := (HO.out.below h).at_ HM.out
          obtain rfl := Option.some.inj ha
          exact load_rh u _ m c0 c1) ?_
        try simp only [Act.put, List.setIfInBounds_toArray, List.set_cons_zero, List.set_cons_succ]
        repeat (first
          | (refine steady_off (by rfl) ?_; try simp only [Act.put, List.setIfInBounds_toArray, List.set_cons_zero, List.set_cons_succ])
          | (refine steady_pure (v := ?_) (by rfl) ?_ ?_; rotate_left; (focus (intro u; go_simp; with_reducible rfl)); try simp only [Act.put, List.setIfInBounds_toArray, List.set_cons_zero, List.set_cons_succ]))
        refine steady_load (v := .agg #[Sv m'.1, Sv m'.2]) 24 (.tmp 23) rfl (by rfl) (fun u h => by
          obtain ⟨a, ha, c0, c1⟩ := (HO'.out.below h).at_ HM'.out
          obtain rfl := Option.some.inj ha
          exact load_rh u _ m' c0 c1) ?_
        try simp only [Act.put, List.setIfInBounds_toArray, List.set_cons_zero, List.set_cons_succ]
        have qn := fun u => run_neq_rh u m.1 m.2 m'.1 m'.2
        obtain ⟨b, hb⟩ : ∃ b, (!(m.1 == m'.1) || !(m.2 == m'.2)) = b := ⟨_, rfl⟩
        simp only [hb] at qn
        rw [← neq_of] at hb
        have HBB := hid hb
        clear hb
        repeat (first
          | (refine steady_off (by rfl) ?_; try simp only [Act.put, List.setIfInBounds_toArray, List.set_cons_zero, List.set_cons_succ])
          | (refine steady_pure (v := ?_) (by rfl) ?_ ?_; rotate_left; (focus (intro u; go_simp; with_reducible rfl)); try simp only [Act.put, List.setIfInBounds_toArray, List.set_cons_zero, List.set_cons_succ]))
        refine steady_nil (fun w1 h1 => ?_)
        have HB1 := hid h1
        clear h1 qn
        cases b with
        | true =>
          have HR := hid (show decide (L = M) = false by
            rw [decide_eq_false_iff_not]
            rintro rfl
            have := HM.out.symm.trans HM'.out
            obtain rfl := Option.some.inj this
            have := HBB.out
            simp at this)
          go_wp2_with fail
          go_ret
          exact ⟨by rw [HR.out]; rfl, HB1.out⟩
        | false =>
          have HT2 := hid (show L.take (k + 1) = M.take (k + 1) by
            have e : m = m' := by have := HBB.out; simpa using this
            rw [take_snoc_at HM.out, take_snoc_at HM'.out, HT.out, e])
          go_wp2_with fail
          refine ⟨⟨k + 1, by go_num, hlk, HT2, HB1⟩, by simp [intOf] <;> omega⟩
      · obtain rfl : k = L.length := by omega
        have HR := hid (show decide (L = M) = true by
          rw [decide_eq_true_eq]
          have := HT.out
          rw [List.take_length, HL.out, List.take_length] at this
          exact this)
        go_wp2_with fail
        go_ret
        exact ⟨by rw [HR.out]; rfl, HB.out⟩
  · have HR := hid (show decide (L = M) = false by
      rw [decide_eq_false_iff_not]
      rintro rfl
      exact hlen rfl)
    have q : ((L.length : Int) == (M.length : Int)) = false := by rw [beq_eq_false_iff_ne]; omega
    go_enter Tryz.func14, Tryz.ntmps14
    go_wp2_with fail
    go_ret
    exact ⟨by rw [HR.out]; rfl, Below.refl _ _⟩
/-- with and some. -/
def withR (L : List Mb) (name value : List UInt8) : List Mb := if value = [] then L else L ++ [(name, value)]
set_option maxRecDepth 100000 in
theorem rwith_any (v : Value) (L : List Mb) (name value : List UInt8) (B : Nat) (w : World) (h : OwnM w B 24 v L) (hB : B ≤ w.heap.size) (hl : L.length ≤ 100000) :
    Calls Tryz.prog 42 #[v, Sv name, Sv value] w fun e w' => ∃ v', e = .returned v' ∧ OwnM w' B 24 v' (withR L name value) ∧ w.grownBy w' v.ownBlock := by
  have HO := hid h
  obtain ⟨A1, c1, hform⟩ := HO.out.len
  subst hform
  by_cases h0 : value = []
  · have HE := hid (show withR L name value = L from if_pos h0)
    have q0 : (value == []) = true := by rw [h0]; rfl
    clear h0 h
    go_enter Tryz.func42, Tryz.ntmps42
    go_wp2_with fail
    go_ret
    exact ⟨_, rfl, by rw [HE.out]; exact HO.out, only_of_below (Below.refl _ _) _⟩
  · have HE := hid (show withR L name value = L ++ [(name, value)] from if_neg h0)
    have q0 : (value == []) = false := by simpa using h0
    have HO7 := hid (h.ext (ext_alloc w (.cells #[Sv name, Sv value] 24)))
    have HBK := hid (Blk.new w 24 (mcs (name, value)))
    have hkl : L.length ≤ 1000000 := by omega
    have hbb : B ≤ (w.alloc (.cells #[Sv name, Sv value] 24)).heap.size := by simp; omega
    have HBB := hid hbb
    clear h0 h hbb
    go_enter Tryz.func42, Tryz.ntmps42
    go_wp2_with (refine wpList_appM rfl _ _ _ _ Tryz.underlying22 info_rh rfl B (.slice A1 L.length c1) L rfl HO7.out w.heap.size 1 24 (name, value) rfl HBK.out hkl HBB.out ?_; intro v8 w8 hown8 hg8; have HO8 := hid hown8; have HG8 := hid hg8; clear hown8 hg8)
    go_ret
    exact ⟨_, rfl, by rw [HE.out]; exact HO8.out, only_trans (only_of_below (ext_alloc w _) _) HG8.out⟩
def SomeRel (w : World) (L : List Mb) (v i : Value) (wr : World) : Prop := ∃ (v' : Value) (k : Nat), v' = v ∧ i = .int .i64 (k : Int) ∧ k ≤ L.length ∧ Hid (OwnM wr w.heap.size 61 v' (someR (L.take k))) ∧ Hid (Below w.heap.size w wr)
theorem someR_len (L : List Mb) : (someR L).length ≤ L.length := List.length_filter_le _ _
set_option maxRecDepth 100000 in
set_option maxHeartbeats 4000000 in
theorem csome_any (A : Option Addr) (cap : Nat) (L : List Mb) (w : World) (h : Mbs w w.heap.size A L) (hl : L.length ≤ 100000) :
    Calls Tryz.prog 37 #[.slice A L.length cap] w fun e w' => ∃ v, e = .returned v ∧ OwnM w' w.heap.size 61 v (someR L) ∧ Below w.heap.size w w' := by
  have HO := hid h
  clear h
  go_enter Tryz.func37, Tryz.ntmps37
  go_wp2_with fail
  go_loopw [3, 8] (fun v i wr => SomeRel w L v i wr) (fun _ i _ => L.length - (intOf i).toNat)
  case atStart => exact ⟨_, 0, rfl, rfl, Nat.zero_le _, OwnM.nil _ _ _, Below.refl _ _⟩
  case round =>
    obtain ⟨v', k, hv, rfl, hk, HW, HB⟩ := hrel
    subst hv
    by_cases hlt : k < L.length
    · obtain ⟨m, hm⟩ := get_lt hlt
      obtain ⟨ad, hA, p0, p1⟩ := (HO.out.below HB.out).at_ hm
      have HV := hid (someR_snoc (L.take k) m)
      rw [← take_snoc_at hm] at HV
      clear hm
      subst hA
      have qi : (0 : Int) ≤ (k : Int) ∧ (k : Int) < (L.length : Int) := by omega
      have HB3 := hid (HB.out.alloc HB.out.size (.cells #[Sv m.1, Sv m.2] 61))
      have HW3 := hid (HW.out.ext (ext_alloc wr (.cells #[Sv m.1, Sv m.2] 61)))
      obtain ⟨b, hb⟩ : ∃ b, (m.2 == []) = b := ⟨_, rfl⟩
      rw [hb] at HV
      cases b with
      | true =>
        have HV2 := hid (show someR (L.take (k + 1)) = someR (L.take k) by rw [HV.out, if_pos rfl, List.append_nil])
        go_wp2_with fail
        refine ⟨⟨v', k + 1, rfl, by go_num, hlt, hid (by rw [HV2.out]; exact HW3.out), HB3⟩, by simp [intOf] <;> omega⟩
      | false =>
        have HV2 := hid (show someR (L.take (k + 1)) = someR (L.take k) ++ [m] by rw [HV.out, if_neg (by simp)])
        have hkl : (someR (L.take k)).length ≤ 1000000 := by
          have := someR_len (L.take k)
          rw [List.length_take] at this
          omega
        have HO7 := hid (HW3.out.ext (ext_alloc _ (.cells #[Sv m.1, Sv m.2] 61)))
        have HBK := hid (show Blk ((wr.alloc (.cells #[Sv m.1, Sv m.2] 61)).alloc (.cells (mcs m) 61)) (wr.heap.size + 1) 61 (mcs m) by have h := Blk.new (wr.alloc (.cells #[Sv m.1, Sv m.2] 61)) 61 (mcs m); rwa [size_alloc] at h)
        have HB7 := hid (HB3.out.alloc HB3.out.size (.cells #[Sv m.1, Sv m.2] 61))
        go_wp2_with (refine wpList_appM rfl _ _ _ _ Tryz.underlying36 info_ch rfl w.heap.size v' (someR (L.take k)) rfl HO7.out (wr.heap.size + 1) 1 61 m rfl HBK.out hkl HB7.out.size ?_; intro v8 w8 hown8 hg8; have HO8 := hid hown8; have HB8 := hid (show Below w.heap.size w w8 from Below.grown HB7.out hg8 HB7.out.size (fun k hk => (World.ownsRow.lt HO7.out k hk).1)); clear hown8 hg8)
        refine ⟨⟨v8, k + 1, rfl, by go_num, hlt, hid (by rw [HV2.out]; exact HO8.out), HB8⟩, by simp [intOf] <;> omega⟩
    · obtain rfl : k = L.length := by omega
      have HW := hid (show OwnM wr w.heap.size 61 v' (someR L) by have := HW.out; rwa [List.take_length] at this)
      go_wp2_with fail
      go_ret
      exact ⟨_, rfl, HW.out, HB.out⟩
end Go.Proofs.YtgfdmdikiickpaaGreatDoor

/-! CarryI -/
namespace Go.Proofs.YtgfdmdikiickpaaGreatDoor
open Go.RowKit

theorem Mbs.of_blk {w : World} {g : Nat} {T : TypeId} {L : List Mb} {cs : Array Value} (h : Blk w g T cs) (hcs : cs = (flatM L).toArray) : Mbs w w.heap.size (some ⟨g, 0, none⟩) L := by
  subst hcs
  intro k m hm
  refine ⟨⟨g, 0, none⟩, rfl, h.lt, fun q u hu => ?_⟩
  obtain ⟨h1, h2⟩ := flatM_at L k m hm
  rw [add_zero_off, h.cell (k * 2 + q)]
  rw [Nat.mul_comm 2 k] at h1 h2
  have hq : q < 2 := by
    rcases Nat.lt_or_ge q 2 with r | r
    · exact r
    · rw [Array.getElem?_eq_none (by simpa [mcs] using r)] at hu; cases hu
  match q, hu with
  | 0, hu => rw [show u = Sv m.1 from (Option.some.inj hu).symm]; simpa using h1
  | 1, hu => rw [show u = Sv m.2 from (Option.some.inj hu).symm]; simpa using h2
theorem load_ch (w : World) (p : Addr) (m : Mb) (h0 : w.cell? p = some (Sv m.1)) (h1 : w.cell? ⟨p.block, p.off + 1, none⟩ = some (Sv m.2)) : (Instr.loadAt 61 (.pointer (some p))).run Tryz.prog w = .ok (.agg #[Sv m.1, Sv m.2]) w := by
  go_simp
theorem keepF_bd (k : Int) : 0 ≤ keepF k ∧ keepF k ≤ 255 := by
  unfold keepF
  split <;> decide
/-- some, of a row just laid. -/
theorem some_row {w w0 : World} {L : List Mb} {n : Nat} (hb : Below w0.heap.size w0 w) (hn : n = L.length) (hl : L.length ≤ 1000) {cs : Array Value} (hcs : cs = (flatM L).toArray) :
    Calls Tryz.prog 37 #[.slice (some ⟨w.heap.size, 0, none⟩) n n] (w.alloc (.cells cs 61)) fun e w' => ∃ v, e = .returned v ∧ OwnM w' w0.heap.size 61 v (someR L) ∧ Below w0.heap.size w0 w' := by
  subst hn
  refine (csome_any (some ⟨w.heap.size, 0, none⟩) L.length L (w.alloc (.cells cs 61)) (Mbs.of_blk (Blk.new w _ cs) hcs) (by omega)).mono ?_
  rintro e w' ⟨v, he, ho, hb'⟩
  have hB := hb.alloc hb.size (.cells cs 61)
  exact ⟨v, he, ho.mono_ hB.size, hB.trans (hb'.mono hB.size)⟩
set_option maxRecDepth 100000 in
set_option maxHeartbeats 8000000 in
theorem cinject_any (t x p : List UInt8) (k : Int) (A : Option Addr) (cap : Nat) (L : List Mb) (style : Int) (w : World) (hok : Okc t x p) (hM : Mbs w w.heap.size A L) (hL : L.length ≤ 100000) (hsz : sizeM L ≤ 1000000000000) :
    Calls Tryz.prog 16 #[Cv t x p k, .slice A L.length cap, .int .i64 style] w fun e w' => ∃ v, e = .returned v ∧ OwnM w' w.heap.size 61 v (injR t x p k L style) ∧ Below w.heap.size w w' := by
  have HOK := hid hok
  have HMM := hid hM
  have hF0 : Frm w _ [(w.heap.size, 31, (cc t x p k).toArray)] := (Frm.start w).new 31 (cc t x p k).toArray rfl
  obtain ⟨W1, hW⟩ : ∃ W1, w.alloc (.cells (cc t x p k).toArray 31) = W1 := ⟨_, rfl⟩
  rw [hW] at hF0
  have HF := hid hF0
  have HW := hid hW
  clear hF0 hW
  by_cases s1 : style = 1
  · subst s1
    have HI := hid (show injR t x p k L 1 = if textH t x (keepF k) = [] then [] else someR [(n1, textH t x (keepF k)), (n2, textS L)] from if_pos rfl)
    have hof := fun u => pof_any t x p k u hok.1 hok.2.1 hok.2.2
    have htx := fun u => ptext_any 0 (keepF k) t x u hok.1 hok.2.1 (keepF_bd k).1 (keepF_bd k).2
    have hst := fun u (hu : Below w.heap.size w u) => stext_any A cap L u ((HMM.out.below hu).mono_ hu.size) hL hsz
    obtain ⟨T, hT⟩ : ∃ T, textH t x (keepF k) = T := ⟨_, rfl⟩
    obtain ⟨U, hU⟩ : ∃ U, textS L = U := ⟨_, rfl⟩
    rw [hT, hU] at HI
    simp only [hT] at htx
    simp only [hU] at hst
    have HST := hid hst
    clear hT hU hok hM hst
    go_enter Tryz.func16, Tryz.ntmps16
    go_upto_region 3 with fail
    rw [HW.out]
    clear HW
    go_wp2_with (refine wpList_loadE rfl rfl (HF.out.loadCv 0 rfl HOK.out) rfl ?_)
    refine (hof _).mono ?_; rintro e w2 ⟨rfl, hb2⟩
    have HF2 := hid (HF.out.call hb2)
    clear hb2 hof
    go_wp2_with fail
    refine (htx _).mono ?_; rintro e w3 ⟨rfl, hb3⟩
    have hF4 := (HF2.out.call hb3).new 61 #[Sv n1, Sv T] (n := w3.heap.size) rfl
    have HF4 := hid hF4
    clear hb3 htx hF4
    obtain ⟨b, hb⟩ : ∃ b, (T == []) = b := ⟨_, rfl⟩
    cases b with
    | true =>
      have HI2 := hid (show injR t x p k L 1 = [] by rw [HI.out, if_pos (by simpa using hb)])
      clear HI
      go_wp2_with fail
      go_ret
      exact ⟨_, rfl, by rw [HI2.out]; exact OwnM.nil _ _ _, HF4.out.bel⟩
    | false =>
      have HI2 := hid (show injR t x p k L 1 = someR [(n1, T), (n2, U)] by rw [HI.out, if_neg (by simpa using hb)])
      have c1 : (w3.alloc (.cells #[Sv n1, Sv T] 61)).cell? ⟨w3.heap.size, 1, none⟩ = some (Sv T) := HF4.out.cell 1 rfl 1 rfl
      clear HI
      go_upto_region 6 with fail
      clear c1
      refine region_token_tail (fun _ u => Frm w u [(w.heap.size, 31, (cc t x p k).toArray), (w3.heap.size, 61, #[Sv n1, Sv T])]) 0 undef 4 (by kernel_rfl) (by kernel_rfl) (HF4.out.drew) ?_
      refine tok_load (v := .agg #[Sv n1, Sv T]) 61 (.tmp 7) rfl (by decide) (fun _ => by rfl) (fun _ u h => load_ch u _ (n1, T) (h.cell 1 rfl 0 rfl) (h.cell 1 rfl 1 rfl)) ?_
      try simp only [Act.put, List.setIfInBounds_toArray, List.set_cons_zero, List.set_cons_succ]
      repeat (first
        | (refine tok_off (by decide) (fun _ => by rfl) ?_; try simp only [Act.put, List.setIfInBounds_toArray, List.set_cons_zero, List.set_cons_succ])
        | (refine tok_pure (v := ?_) (by decide) (fun _ => by rfl) ?_ ?_; rotate_left; (focus (intro x u; simp only [fam]; go_simp; with_reducible rfl)); try simp only [Act.put, List.setIfInBounds_toArray, List.set_cons_zero, List.set_cons_succ]))
      refine tok_call (fun _ u h => (HST.out u h.bel).mono fun e u' ⟨he, hb⟩ => ⟨he, h.call hb⟩) (by decide) (fun _ => by rfl) (fun _ u => by simp only [fam]; go_simp) ?_
      try simp only [Act.put, List.setIfInBounds_toArray, List.set_cons_zero, List.set_cons_succ]
      repeat (first
        | (refine tok_off (by decide) (fun _ => by rfl) ?_; try simp only [Act.put, List.setIfInBounds_toArray, List.set_cons_zero, List.set_cons_succ])
        | (refine tok_pure (v := ?_) (by decide) (fun _ => by rfl) ?_ ?_; rotate_left; (focus (intro x u; simp only [fam]; go_simp; with_reducible rfl)); try simp only [Act.put, List.setIfInBounds_toArray, List.set_cons_zero, List.set_cons_succ]))
      refine tok_nil (fun _ w6 h6 => ?_)
      simp only [fam]
      simp only [List.drop_succ_cons, List.drop_zero]
      have HF6 := hid h6
      clear h6
      go_wp2_with fail
      refine (some_row (L := [(n1, T), (n2, U)]) HF6.out.bel rfl (by simp) rfl).mono ?_; rintro e w7 ⟨v7, rfl, ho7, hb7⟩
      have HO7 := hid ho7
      have HB7 := hid hb7
      clear ho7 hb7
      go_wp2_with fail
      go_ret
      exact ⟨_, rfl, by rw [HI2.out]; exact HO7.out, HB7.out⟩
  by_cases s2 : style = 2
  · subst s2
    have HI := hid (show injR t x p k L 2 = someR [(n3, oneT t x p k)] by unfold injR; rw [if_neg s1, if_pos rfl])
    have htx := fun u => btextone_any t x p k u hok
    obtain ⟨T, hT⟩ : ∃ T, oneT t x p k = T := ⟨_, rfl⟩
    rw [hT] at HI
    simp only [hT] at htx
    clear hT hok hM s1
    go_enter Tryz.func16, Tryz.ntmps16
    go_upto_region 8 with fail
    rw [HW.out]
    clear HW
    go_wp2_with (refine wpList_loadE rfl rfl (HF.out.loadCv 0 rfl HOK.out) rfl ?_)
    refine (htx _).mono ?_; rintro e w2 ⟨rfl, hb2⟩
    have HF2 := hid (HF.out.call hb2)
    clear hb2 htx
    go_wp2_with fail
    refine (some_row (L := [(n3, T)]) HF2.out.bel rfl (by simp) rfl).mono ?_; rintro e w7 ⟨v7, rfl, ho7, hb7⟩
    have HO7 := hid ho7
    have HB7 := hid hb7
    clear ho7 hb7
    go_wp2_with fail
    go_ret
    exact ⟨_, rfl, by rw [HI.out]; exact HO7.out, HB7.out⟩
  by_cases s3 : style = 3
  · subst s3
    have HI := hid (show injR t x p k L 3 = someR (five (multiT t x p k)) by unfold injR; rw [if_neg s1, if_neg s2, if_pos rfl])
    have htx := fun u => btextmulti_any t x p k u hok
    obtain ⟨m, hm⟩ : ∃ m, multiT t x p k = m := ⟨_, rfl⟩
    rw [hm] at HI
    simp only [hm] at htx
    obtain ⟨a, b, c, d, f⟩ := m
    clear hm hok hM s1 s2
    go_enter Tryz.func16, Tryz.ntmps16
    go_upto_region 10 with fail
    rw [HW.out]
    clear HW
    go_upto_region 11 with (first
      | (refine at_load 31 (by rfl) ?_; refine wpList_loadE rfl rfl (HF.out.loadCv 0 rfl HOK.out) rfl ?_)
      | (go_at_call 40; refine (htx _).mono ?_; rintro e w2 ⟨rfl, hb2⟩; have HF2 := hid ((HF.out.call hb2).new 89 (mc muNone) (n := w2.heap.size) rfl); clear hb2)
      | (refine at_store 89 (by rfl) ?_; refine wpList_putM HF2.out 1 muNone (a, b, c, d, f) rfl rfl rfl rfl rfl ?_; intro w3 h3; have HF3 := hid h3; clear h3))
    obtain ⟨m0, m1, m2, m3, m4⟩ := HF3.out.mcells 1 (m := (a, b, c, d, f)) rfl
    simp only at m0 m1 m2 m3 m4
    go_wp2_with fail
    refine (some_row (L := five (a, b, c, d, f)) HF3.out.bel rfl (by simp [five]) rfl).mono ?_; rintro e w7 ⟨v7, rfl, ho7, hb7⟩
    have HO7 := hid ho7
    have HB7 := hid hb7
    clear ho7 hb7 m0 m1 m2 m3 m4
    go_wp2_with fail
    go_ret
    exact ⟨_, rfl, by rw [HI.out]; exact HO7.out, HB7.out⟩
  · have HI := hid (show injR t x p k L style = [] by unfold injR; rw [if_neg s1, if_neg s2, if_neg s3])
    have q1 : (style == 1) = false := by rw [beq_eq_false_iff_ne]; exact s1
    have q2 : (style == 2) = false := by rw [beq_eq_false_iff_ne]; exact s2
    have q3 : (style == 3) = false := by rw [beq_eq_false_iff_ne]; exact s3
    have HBW := hid (HF.out.bel)
    clear hok hM s1 s2 s3
    go_enter Tryz.func16, Tryz.ntmps16
    go_upto_region 12 with fail
    rw [HW.out]
    go_wp2_with fail
    go_ret
    exact ⟨_, rfl, by rw [HI.out]; exact OwnM.nil _ _ _, HBW.out⟩
end Go.Proofs.YtgfdmdikiickpaaGreatDoor

/-! CarryK -/
namespace Go.Proofs.YtgfdmdikiickpaaGreatDoor
open Go.RowKit

theorem wpList_buildE {ops : Array Oper} {rest : List Oper} {o : Oper} {a : Act} {w : World} {Q : Exit → Act → World → Prop} (hgd : o.guard = none) {cells : Array Value} (ty : TypeId) (parts : Array (Nat × Operand)) (ho : o.op = .build ty parts) (vs : Array (Nat × Value)) (hv : (parts.map fun (i, y) => (i, a.eval y)) = vs) (hb : Tryz.prog.built ty vs.toList = some cells)
    (h : wpList Tryz.prog ops Q rest (a.put o.dst (.agg cells)) w) : wpList Tryz.prog ops Q (o :: rest) a w :=
  wpList_plain hgd fun K hK => by
    have hr := run_build (P := Tryz.prog) w ty vs cells hb
    unfold Oper.wp
    simp only [execOp, ho]
    rw [hv]
    simp [hr, Result.andThen]
    exact hK _ _ h
def wT : List UInt8 := [1, 0, 0, 0, 0, 0, 0, 0, 0, 0, 0, 0, 0, 0, 0, 0]
def wX : List UInt8 := [2, 0, 0, 0, 0, 0, 0, 0]
theorem wok : Okc wT wX (zb 8) := ⟨rfl, rfl, zb_length 8⟩
theorem built_wT : Tryz.prog.built 27 [(0, .int .u8 1)] = some (b8s wT).toArray := by kernel_rfl
theorem built_wX : Tryz.prog.built 29 [(0, .int .u8 2)] = some (b8s wX).toArray := by kernel_rfl
theorem built_wC : Tryz.prog.built 31 [(0, Av wT), (1, Av wX), (3, .int .i64 2)] = some (cc wT wX (zb 8) 2).toArray := by kernel_rfl
/-- Extract, of a row just laid. -/
theorem extract_row {w : World} {L : List Mb} {n : Nat} (hn : n = L.length) (hS : ShortV L) (hN : ∀ m ∈ L, m.1.length ≤ 140737488355328) {cs : Array Value} (hcs : cs = (flatM L).toArray) {t x p : List UInt8} {k c : Int} {M : List Mb} (hE : exR L = ((t, x, p, k, c), M)) :
    Calls Tryz.prog 7 #[.slice (some ⟨w.heap.size, 0, none⟩) n n] (w.alloc (.cells cs 61)) fun e w' => ∃ v, e = .returned (.tuple #[Cv t x p k, v, .int .i64 c]) ∧ Below w.heap.size w w' := by
  subst hn
  refine (cextract_any (some ⟨w.heap.size, 0, none⟩) L.length L (w.alloc (.cells cs 61)) (Mbs.of_blk (Blk.new w _ cs) hcs) hS hN).mono ?_
  rintro e w' ⟨v, he, _, hb⟩
  rw [hE] at he
  exact ⟨v, he, ext_trans (ext_alloc w _) hb⟩
def wL1 : List Mb := [([88, 45, 66, 51, 45, 83, 97, 109, 112, 108, 101, 100], [49])]
def wL2 : List Mb := [([98, 51], [48]), ([66, 51], [49])]
def wS1 : List Mb := injR wT wX (zb 8) 2 [] 1
def wS3 : List Mb := injR wT wX (zb 8) 2 [] 3
theorem wshort (L : List Mb) (h : (decide (L.length ≤ 1000) && nms.all fun nm => (valsR L nm).all fun s => decide (s.length ≤ 1048576)) = true) : ShortV L := by
  rw [Bool.and_eq_true, List.all_eq_true] at h
  refine ⟨of_decide_eq_true h.1, fun nm hn s hs => ?_⟩
  have h2 := h.2 nm hn
  rw [List.all_eq_true] at h2
  exact of_decide_eq_true (h2 s hs)
theorem wnames (L : List Mb) (h : (L.all fun m => decide (m.1.length ≤ 1000)) = true) : ∀ m ∈ L, m.1.length ≤ 140737488355328 := fun m hm => by
  rw [List.all_eq_true] at h
  have := of_decide_eq_true (h m hm)
  omega
theorem wE1 : exR wL1 = ((zb 16, zb 8, zb 8, 2, 0), []) := by decide +kernel
theorem wE2 : exR wL2 = ((zb 16, zb 8, zb 8, 0, 8), []) := by decide +kernel
theorem wE3 : exR wS1 = ((wT, wX, zb 8, 2, 0), []) := by decide +kernel
theorem wlen1 : wS1.length = 1 := by decide +kernel
theorem wlen3 : wS3.length = 3 := by decide +kernel
theorem wlen2 : (injR wT wX (zb 8) 2 [] 2).length = 1 := by decide +kernel
theorem wlen4 : injR wT wX (zb 8) 2 [] 4 = [] := by decide +kernel
theorem wv3 : (valsR wS3 [88, 45, 66, 51, 45, 84, 114, 97, 99, 101, 73, 100]).length = 1 := by decide +kernel
theorem wsh1 : ShortV wL1 := wshort _ (by decide +kernel)
theorem wsh2 : ShortV wL2 := wshort _ (by decide +kernel)
theorem wsh3 : ShortV wS1 := wshort _ (by decide +kernel)
theorem winj (style : Int) (w : World) : Calls Tryz.prog 16 #[Cv wT wX (zb 8) 2, .slice none 0 0, .int .i64 style] w fun e w' => ∃ v, e = .returned v ∧ OwnM w' w.heap.size 61 v (injR wT wX (zb 8) 2 [] style) ∧ Below w.heap.size w w' :=
  cinject_any wT wX (zb 8) 2 none 0 [] style w wok (Mbs.nil _ _ _) (by simp) (by simp [sizeM])
theorem OwnS.lenform {w : World} {B : Nat} {v : Value} {L : List (List UInt8)} (h : OwnS w B v L) : ∃ A c, v = .slice A L.length c := by
  rcases h.form with ⟨hn, hv⟩ | ⟨g, c, hv, _, _, _⟩
  · exact ⟨none, 0, by rw [hv, hn]; rfl⟩
  · exact ⟨_, _, hv⟩
set_option maxRecDepth 100000 in
set_option maxHeartbeats 8000000 in
theorem hworks46_any (w : World) : Calls Tryz.prog 6 #[] w fun e w' => e = .returned (.bool true) ∧ Below w.heap.size w w' := by
  have HF := hid (Frm.start w)
  go_enter Tryz.func6, Tryz.ntmps6
  go_upto_region 2 with (first
    | (go_at_call 7; refine (extract_row (L := wL1) rfl wsh1 (wnames _ (by decide +kernel)) rfl wE1).mono ?_; rintro e w1 ⟨v1, rfl, hb1⟩; have HF1 := hid ((HF.out.call hb1).new0 31 rfl); clear hb1)
    | (refine at_store 31 (by rfl) ?_; refine wpList_putCv HF1.out 0 rfl rfl rfl okc_zero okc_zero rfl rfl ?_; intro w2 h2; have HF2 := hid h2; clear h2))
  go_upto_region 3 with (first
    | (go_at_call 7; refine (extract_row (L := wL2) rfl wsh2 (wnames _ (by decide +kernel)) rfl wE2).mono ?_; rintro e w3 ⟨v3, rfl, hb3⟩; have HF3 := hid ((HF2.out.call hb3).new0 31 rfl); clear hb3)
    | (refine at_store 31 (by rfl) ?_; refine wpList_putCv HF3.out 1 rfl rfl rfl okc_zero okc_zero rfl rfl ?_; intro w4 h4; have HF4 := hid h4; clear h4))
  have hF5 := HF4.out.new0 31 (n := w4.heap.size) rfl
  have HF5 := hid hF5
  clear hF5
  go_upto_region 4 with (first
    | (refine wpList_buildE rfl 27 _ rfl #[(0, .int .u8 1)] rfl built_wT ?_; change wpList _ _ _ _ (Act.put _ _ (Av wT)) _)
    | (refine wpList_buildE rfl 29 _ rfl #[(0, .int .u8 2)] rfl built_wX ?_; change wpList _ _ _ _ (Act.put _ _ (Av wX)) _)
    | (refine wpList_buildE rfl 31 _ rfl #[(0, Av wT), (1, Av wX), (3, .int .i64 2)] rfl built_wC ?_; change wpList _ _ _ _ (Act.put _ _ (Cv wT wX (zb 8) 2)) _)
    | (refine at_store 31 (by rfl) ?_; refine wpList_putCv HF5.out 2 rfl rfl rfl okc_zero wok rfl rfl ?_; intro w6 h6; have HF6 := hid h6; clear h6))
  go_upto_region 5 with (first
    | (refine at_load 31 (by rfl) ?_; refine wpList_loadE rfl rfl (HF6.out.loadCv 2 rfl wok) rfl ?_)
    | (go_at_call 16; refine (winj 1 _).mono ?_; rintro e w7 ⟨v7, rfl, ho7, hb7⟩; have HF7 := hid (HF6.out.call hb7); have HO7 := hid ho7; clear hb7 ho7))
  obtain ⟨A7, c7, hv7⟩ : ∃ A c, v7 = .slice A 1 c := by
    obtain ⟨A, c, e⟩ := HO7.out.len
    exact ⟨A, c, by rw [e]; exact congrArg (fun n => Value.slice A n c) wlen1⟩
  subst hv7
  have hex := cextract_any A7 c7 wS1 w7 (HO7.out.mbs_) wsh3 (wnames _ (by decide +kernel))
  rw [wlen1, wE3] at hex
  go_upto_region 6 with (first
    | (go_at_call 7; refine hex.mono ?_; rintro e w8 ⟨v8, rfl, _, hb8⟩; have HF8 := hid ((HF7.out.call hb8).new0 31 rfl); clear hb8; unfold exOut; simp only [])
    | (refine at_store 31 (by rfl) ?_; refine wpList_putCv HF8.out 3 rfl rfl rfl okc_zero wok rfl rfl ?_; intro w9 h9; have HF9 := hid h9; clear h9))
  go_upto_region 7 with (first
    | (refine at_load 31 (by rfl) ?_; refine wpList_loadE rfl rfl (HF9.out.loadCv 2 rfl wok) rfl ?_)
    | (go_at_call 16; refine (winj 3 _).mono ?_; rintro e wa ⟨va, rfl, hoa, hba⟩; have HFa := hid (HF9.out.call hba); have HOa := hid hoa; clear hba hoa))
  obtain ⟨Aa, ca, hva⟩ : ∃ A c, va = .slice A 3 c := by
    obtain ⟨A, c, e⟩ := HOa.out.len
    exact ⟨A, c, by rw [e]; exact congrArg (fun n => Value.slice A n c) wlen3⟩
  subst hva
  have HMa := hid (HOa.out.mbs_)
  have hvals := fun u (hu : Below wa.heap.size wa u) => cvalues_any Aa ca wS3 [88, 45, 66, 51, 45, 84, 114, 97, 99, 101, 73, 100] u (HMa.out.ext hu) (by rw [wlen3]; decide) (wnames _ (by decide +kernel)) (by decide)
  simp only [wlen3] at hvals
  have HVA := hid hvals
  clear hvals
  have k0 := HFa.out.cellK 0 rfl okc_zero
  have qC := fun u => run_eq_cv u 2 2 wT wX (zb 8) wT wX (zb 8) wok.1 wok.2.1 wok.2.2 wok.1 wok.2.1 wok.2.2
  simp only [cvq_self] at qC
  go_wp2_with (first
    | (refine at_load 31 (by rfl) ?_; refine wpList_loadW (by rfl) rfl (HFa.out.loadCv 3 rfl wok) rfl ?_)
    | (refine at_load 31 (by rfl) ?_; refine wpList_loadW (by rfl) rfl (HFa.out.loadCv 2 rfl wok) rfl ?_)
    | (refine at_load 31 (by rfl) ?_; refine wpList_loadW (by rfl) rfl (HFc.out.loadCv 2 rfl wok) rfl ?_)
    | (go_at_call 16; (with_reducible refine (winj 2 _).mono ?_); rintro e wb ⟨vb, rfl, hob, hbb⟩; have HFb := hid (HFa.out.call hbb); have HRb := hid hbb
       obtain ⟨Ab, cb, hvb⟩ : ∃ A c, vb = .slice A 1 c := by
         obtain ⟨A, c, e⟩ := hob.len
         exact ⟨A, c, by rw [e]; exact congrArg (fun n => Value.slice A n c) wlen2⟩
       subst hvb; clear hbb hob)
    | (go_at_call 10; refine (HVA.out _ HRb.out).mono ?_; rintro e wc ⟨vc, rfl, hoc, hbc⟩; have HFc := hid (HFb.out.call hbc)
       obtain ⟨Ac, cc', hvc⟩ : ∃ A c, vc = .slice A 1 c := by
         obtain ⟨A, c, e⟩ := hoc.lenform
         exact ⟨A, c, by rw [e]; exact congrArg (fun n => Value.slice A n c) wv3⟩
       subst hvc; clear hbc hoc)
    | (go_at_call 16; (with_reducible refine (winj 4 _).mono ?_); rintro e wd ⟨vd, rfl, hod, hbd⟩; have HFd := hid (HFc.out.call hbd)
       obtain ⟨Ad, cd, hvd⟩ : ∃ A c, vd = .slice A 0 c := by
         obtain ⟨A, c, e⟩ := hod.len
         exact ⟨A, c, by rw [e, wlen4]; rfl⟩
       subst hvd; clear hbd hod))
  go_ret
  exact ⟨rfl, HFd.out.bel⟩
end Go.Proofs.YtgfdmdikiickpaaGreatDoor
