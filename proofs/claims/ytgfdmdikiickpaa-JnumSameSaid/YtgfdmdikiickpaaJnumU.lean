/-
  Walk of the reference of package jnum: Read.
-/
import Derived.Test.YtgfdmdikiickpaaJnumZ
import Derived.Test.YtgfdmdikiickpaaChain
import Derived.Test.YtgfdmdikiickpaaCurRef
namespace Go.Proofs.Ytgfdmdikiickpaa
open Go.RowKit

def RjS (W0 : World) : List Value → World → Prop
  | [], u => Below W0.heap.size W0 u
  | [v], u => Below W0.heap.size W0 u ∧ ∃ g, v = .pointer (some ⟨g, 0, none⟩) ∧ W0.heap.size ≤ g ∧ Blk u g 48 (Pv [] [] [] 0 0)
  | _, _ => False
theorem RjS.bel {W0 u : World} {X : List Value} (h : RjS W0 X u) : Below W0.heap.size W0 u := by
  match X, h with
  | [], h => exact h
  | [_], h => exact h.1
theorem RjS.ext {W0 u u' : World} {X : List Value} (h : RjS W0 X u) (k : Below u.heap.size u u') : RjS W0 X u' := by
  match X, h with
  | [], h => exact Below.trans h (k.mono (Below.size h))
  | [_], ⟨h1, g, h2, h3, h4⟩ => exact ⟨h1.trans (k.mono h1.size), g, h2, h3, h4.below k h4.lt⟩
theorem rj_text (c : Cu) (n : Nat) (h : c.pos + n ≤ c.en) : (c.s.drop c.pos).take n = c.ahead.take n := by
  unfold Cu.ahead
  rw [List.drop_take, List.take_take, Nat.min_eq_left (by omega)]
theorem num_rd_of {c c' : Cu} (h : c.fit) (e : c' = if (numR c.ahead).1 = 0 then { c with pos := c.pos + (numR c.ahead).2 } else c.fail (numR c.ahead).1) (h0 : c.code = 0) (hle : (numR c.ahead).2 ≤ c.ahead.length) : RdF numR c c' := by
  have hl := Cu.ahead_length h
  have h1 := h.le1
  have h2 := h.le2
  have h3 := h.le3
  by_cases hk : (numR c.ahead).1 = 0
  · rw [if_pos hk] at e
    subst e
    exact ⟨rfl, rfl, ⟨by show c.pos + (numR c.ahead).2 ≤ c.en; omega, h2, h3⟩, fun hb => absurd h0 hb, fun _ => ⟨by rw [hk]; exact h0, fun _ => rfl⟩⟩
  · rw [if_neg hk] at e
    subst e
    exact (RdF.fail _ hk h).of_eq (fun _ => ⟨rfl, fun q => absurd q hk⟩)
set_option maxRecDepth 100000 in
set_option maxHeartbeats 4000000 in
theorem rjread_any (c : Cu) (w : World) (hf : c.fit) (hsm : c.s.length ≤ 1000000) :
    Calls Try.prog 13 #[agg c] w fun e w' => ∃ c', e = .returned (.tuple #[agg c', Sv (jtext c)]) ∧ RdF numR c c' ∧ Below w.heap.size w w' := by
  by_cases h0 : c.code = 0
  · have hsp := fun u : World => jsplit_any (c.s.take c.en) c.pos u (by rw [List.length_take]; omega) (by rw [List.length_take]; have := hf.le1; have := hf.le2; omega)
    rw [show (c.s.take c.en).drop c.pos = c.ahead from rfl] at hsp
    obtain ⟨n1, n2⟩ := num_parts c.ahead
    have hE := (pE3_le c.ahead).2
    have hal := Cu.ahead_length hf
    have hJT : jtext c = if pC3 c.ahead = 0 then c.ahead.take (pE3 c.ahead) else [] := by
      unfold jtext
      by_cases hk : pC3 c.ahead = 0
      · rw [if_pos hk, if_pos ⟨h0, by rw [n1]; exact hk⟩, n2 hk]
      · rw [if_neg hk, if_neg (fun h => hk (by rw [← n1]; exact h.2))]
    have hRD : ∀ c', c' = (if pC3 c.ahead = 0 then { c with pos := c.pos + pE3 c.ahead } else c.fail (pC3 c.ahead)) → RdF numR c c' := fun c' e => by
      by_cases hk : pC3 c.ahead = 0
      · refine num_rd_of hf ?_ h0 (by rw [n2 hk]; exact hE)
        rw [e, n1, if_pos hk, if_pos hk, n2 hk]
      · have hk2 : (numR c.ahead).1 ≠ 0 := by rw [n1]; exact hk
        rw [if_neg hk] at e
        subst e
        rw [← n1]
        exact (RdF.fail _ hk2 hf).of_eq (fun _ => ⟨rfl, fun q => absurd q hk2⟩)
    have hTX := rj_text c (pE3 c.ahead)
    obtain ⟨WH, hWH⟩ : ∃ W, pWhole c.ahead = W := ⟨_, rfl⟩
    obtain ⟨BE, hBE⟩ : ∃ W, pBehind c.ahead = W := ⟨_, rfl⟩
    obtain ⟨PO, hPO⟩ : ∃ W, pPower c.ahead = W := ⟨_, rfl⟩
    obtain ⟨E, hE3⟩ : ∃ W, pE3 c.ahead = W := ⟨_, rfl⟩
    obtain ⟨C, hC3⟩ : ∃ W, pC3 c.ahead = W := ⟨_, rfl⟩
    rw [hWH, hBE, hPO, hE3, hC3] at hsp
    rw [hE3, hC3] at hJT hRD
    rw [hE3] at hTX hE
    obtain ⟨s, pos, en, code⟩ := c
    obtain ⟨l1, l2, l3⟩ := hf
    simp only at l1 l2 l3 hE hTX hsp h0 hal
    subst h0
    have HJT := hid hJT
    have HRD := hid hRD
    have HTX := hid (hTX (by omega))
    have HSP := hid hsp
    have lE : pos + E ≤ en := by omega
    have ten : (s.take en).length = en := by rw [List.length_take]; omega
    clear hJT hRD hTX hsp n1 n2 hWH hBE hPO hE3 hC3 hal hE
    have HBW := hid (Below.refl w.heap.size w)
    obtain ⟨hA, hB, _, hWs, hbw⟩ := box2 (Below.refl ((w.alloc (.cells #[Sv s, .int .i64 pos, .int .i64 en, .int .i64 0] 32)).alloc (.cells #[Sv [], .int .i64 0, .int .i64 0, .int .i64 0] 32)).heap.size _)
    unfold agg
    go_enter Try.func13, Try.ntmps13
    go_upto_region 3 with fail
    generalize ((w.alloc (.cells #[Sv s, .int .i64 pos, .int .i64 en, .int .i64 0] 32)).alloc (.cells #[Sv [], .int .i64 0, .int .i64 0, .int .i64 0] 32)) = W0 at hA hB hbw hWs ⊢
    have HA := hid hA
    have HB := hid hB
    have HBL := hid hbw
    clear hA hB hbw
    go_cut [4] (fun v wx => ∃ g, v = .pointer (some ⟨g, 0, none⟩) ∧ w.heap.size + 2 ≤ g ∧ Blk wx g 48 (Pv WH BE PO (pos + E) C) ∧ Blk wx w.heap.size 32 #[Sv s, .int .i64 pos, .int .i64 en, .int .i64 0] ∧ Blk wx (w.heap.size + 1) 32 #[Sv [], .int .i64 0, .int .i64 0, .int .i64 0] ∧ Below w.heap.size w wx)
    case first =>
      have q1 : (0 : Int) ≤ (en : Int) ∧ (en : Int) ≤ (s.length : Int) := by omega
      refine region_chain (RjS W0) [4] 9 (by kernel_rfl) (by kernel_rfl) (ext_drew _) ?_
      simp only [List.take_succ_cons, List.take_zero, List.drop_succ_cons, List.drop_zero]
      repeat (first
        | (refine ch_off (by decide) (by rfl) ?_; try simp only [Act.put, List.setIfInBounds_toArray, List.set_cons_zero, List.set_cons_succ])
        | (refine ch_pure (v := ?_) (by decide) (by rfl) ?_ ?_; rotate_left; (focus (intro u; go_simp; with_reducible rfl)); try simp only [Act.put, List.setIfInBounds_toArray, List.set_cons_zero, List.set_cons_succ]))
      refine ch_load (v := Sv s) 9 (.tmp 10) rfl (by decide) (by rfl) (fun X u k => by have q : u.cell? ⟨w.heap.size, 0, none⟩ = some (Sv s) := (HA.out.below k.bel HA.out.lt).cell 0; go_simp) ?_
      try simp only [Act.put, List.setIfInBounds_toArray, List.set_cons_zero, List.set_cons_succ]
      repeat (first
        | (refine ch_off (by decide) (by rfl) ?_; try simp only [Act.put, List.setIfInBounds_toArray, List.set_cons_zero, List.set_cons_succ])
        | (refine ch_pure (v := ?_) (by decide) (by rfl) ?_ ?_; rotate_left; (focus (intro u; go_simp; with_reducible rfl)); try simp only [Act.put, List.setIfInBounds_toArray, List.set_cons_zero, List.set_cons_succ]))
      refine ch_load (v := .int .i64 en) 3 (.tmp 12) rfl (by decide) (by rfl) (fun X u k => by have q : u.cell? ⟨w.heap.size, 2, none⟩ = some (.int .i64 (en : Int)) := (HA.out.below k.bel HA.out.lt).cell 2; go_simp) ?_
      try simp only [Act.put, List.setIfInBounds_toArray, List.set_cons_zero, List.set_cons_succ]
      repeat (first
        | (refine ch_off (by decide) (by rfl) ?_; try simp only [Act.put, List.setIfInBounds_toArray, List.set_cons_zero, List.set_cons_succ])
        | (refine ch_pure (v := ?_) (by decide) (by rfl) ?_ ?_; rotate_left; (focus (intro u; go_simp; with_reducible rfl)); try simp only [Act.put, List.setIfInBounds_toArray, List.set_cons_zero, List.set_cons_succ]))
      refine ch_load (v := .int .i64 pos) 3 (.tmp 15) rfl (by decide) (by rfl) (fun X u k => by have q : u.cell? ⟨w.heap.size, 1, none⟩ = some (.int .i64 (pos : Int)) := (HA.out.below k.bel HA.out.lt).cell 1; go_simp) ?_
      try simp only [Act.put, List.setIfInBounds_toArray, List.set_cons_zero, List.set_cons_succ]
      refine ch_call (fun X u k => (HSP.out u).mono (fun e u' h => ⟨h.1, k.ext h.2⟩)) (by decide) (by rfl) (fun u => by go_simp) ?_
      try simp only [Act.put, List.setIfInBounds_toArray, List.set_cons_zero, List.set_cons_succ]
      refine ch_make0 ⟨4, rfl, rfl⟩ (by rfl) (fun u k => ?_) ?_
      · refine chainEnd_value (u := .pointer (some ⟨u.heap.size, 0, none⟩)) (w := u.alloc (.cells (Pv [] [] [] 0 0) 48)) (by unfold Pv; go_simp) ?_
        exact ⟨Below.alloc k (Below.size k) _, u.heap.size, rfl, Below.size k, Blk.new u _ _⟩
      refine ch_nil (fun X u hX k => ?_)
      match X, hX, k with
      | [v], _, ⟨k1, g, hv, hg, hP⟩ =>
        subst hv
        have HA1 := hid (HA.out.below k1 HA.out.lt)
        have HB1 := hid (HB.out.below k1 HB.out.lt)
        have HBL1 := hid (Below.trans HBL.out (k1.mono HBL.out.size))
        obtain ⟨g0, g1, g2, g3, g4⟩ : u.cell? ⟨g, 0, none⟩ = some (Sv []) ∧ u.cell? ⟨g, 1, none⟩ = some (Sv []) ∧ u.cell? ⟨g, 2, none⟩ = some (Sv []) ∧ u.cell? ⟨g, 3, none⟩ = some (.int .i64 0) ∧ u.cell? ⟨g, 4, none⟩ = some (.int .i64 0) := ⟨hP.cell 0, hP.cell 1, hP.cell 2, hP.cell 3, hP.cell 4⟩
        obtain ⟨f0, f1, f2, f3, f4⟩ : u.frozen? ⟨g, 0, none⟩ = false ∧ u.frozen? ⟨g, 1, none⟩ = false ∧ u.frozen? ⟨g, 2, none⟩ = false ∧ u.frozen? ⟨g, 3, none⟩ = false ∧ u.frozen? ⟨g, 4, none⟩ = false := ⟨hP.frozen 0, hP.frozen 1, hP.frozen 2, hP.frozen 3, hP.frozen 4⟩
        have HP := hid hP
        have hge : w.heap.size + 2 ≤ g := by omega
        clear hP k1
        unfold Pv
        simp only [famC, Act.put, List.setIfInBounds_toArray, List.set_cons_zero, List.set_cons_succ]
        go_wp2_with fail
        go_meet
        exact ⟨g, rfl, hge, ((((HP.out.set_ 0 _).set_ 1 _).set_ 2 _).set_ 3 _).set_ 4 _,
          ((((HA1.out.far (p := ⟨g, 0, none⟩) (show w.heap.size ≠ g by omega) _).far (p := ⟨g, 1, none⟩) (show w.heap.size ≠ g by omega) _).far (p := ⟨g, 2, none⟩) (show w.heap.size ≠ g by omega) _).far (p := ⟨g, 3, none⟩) (show w.heap.size ≠ g by omega) _).far (p := ⟨g, 4, none⟩) (show w.heap.size ≠ g by omega) _,
          ((((HB1.out.far (p := ⟨g, 0, none⟩) (show w.heap.size + 1 ≠ g by omega) _).far (p := ⟨g, 1, none⟩) (show w.heap.size + 1 ≠ g by omega) _).far (p := ⟨g, 2, none⟩) (show w.heap.size + 1 ≠ g by omega) _).far (p := ⟨g, 3, none⟩) (show w.heap.size + 1 ≠ g by omega) _).far (p := ⟨g, 4, none⟩) (show w.heap.size + 1 ≠ g by omega) _,
          below_upd (below_upd (below_upd (below_upd (below_upd HBL1.out (by omega) _ _) (by omega) _ _) (by omega) _ _) (by omega) _ _) (by omega) _ _⟩
    case rest =>
      obtain ⟨g, rfl, hge, hP, hA, hB, hbw⟩ := hcut
      obtain ⟨p3, p4⟩ : wc.cell? ⟨g, 3, none⟩ = some (.int .i64 ((pos + E : Nat) : Int)) ∧ wc.cell? ⟨g, 4, none⟩ = some (.int .i64 C) := ⟨hP.cell 3, hP.cell 4⟩
      obtain ⟨a0, a1, a2, a3, e0, e1, e2, e3⟩ := blk4 hA
      obtain ⟨b0, b1, b2, b3, k0, k1, k2, k3⟩ := blk4 hB
      have HBW := hid hbw
      have HBK := hid hB
      clear hP hA hB hbw HA HB HBL
      by_cases hC : C = 0
      · subst hC
        have HX := hid (show jtext ⟨s, pos, en, 0⟩ = (s.drop pos).take E by rw [HJT.out, if_pos rfl, HTX.out])
        have HR2 := hid (HRD.out ⟨s, pos + E, en, 0⟩ (by rw [if_pos rfl]))
        clear HJT HRD HSP HTX
        go_wp2_with fail
        exact bodyPost_ret (v := .tuple #[.agg #[Sv s, .int .i64 ((pos : Int) + (E : Int)), .int .i64 en, .int .i64 0], Sv ((s.drop pos).take E)]) (by simp only [results, Try.results13]; go_simp) rfl ⟨⟨s, pos + E, en, 0⟩, by rw [HX.out]; rfl, HR2.out, below_upd (below_upd (below_upd (below_upd (below_upd HBW.out (Nat.le_refl _) _ _) (Nat.le_succ _) _ _) (Nat.le_succ _) _ _) (Nat.le_succ _) _ _) (Nat.le_succ _) _ _⟩
      · have q : (C != 0) = true := by simpa using hC
        have HX := hid (show jtext ⟨s, pos, en, 0⟩ = [] by rw [HJT.out, if_neg hC])
        have HR2 := hid (HRD.out _ (by rw [if_neg hC]))
        clear HJT HRD HSP HTX hC p3
        go_wp2_with fail
        refine (rfail_any ⟨s, pos, en, 0⟩ C _).mono ?_; rintro e w2 ⟨rfl, hb2⟩
        obtain ⟨c1, h1⟩ : ∃ c1, Cu.fail ⟨s, pos, en, 0⟩ C = c1 := ⟨_, rfl⟩
        rw [h1] at HR2 ⊢
        clear b0 b1 b2 b3 k0 k1 k2 k3 a0 a1 a2 a3 e0 e1 e2 e3 p4 h1
        obtain ⟨b0, b1, b2, b3, k0, k1, k2, k3⟩ := blk4 (HBK.out.below hb2 HBK.out.lt)
        have HB3 := hid (HBW.out.trans (hb2.mono HBW.out.size))
        clear hb2 HBK HBW
        unfold agg
        go_wp2_with fail
        exact bodyPost_ret (v := .tuple #[.agg #[Sv c1.s, .int .i64 c1.pos, .int .i64 c1.en, .int .i64 c1.code], Sv []]) (by simp only [results, Try.results13]; go_simp) rfl ⟨c1, by rw [HX.out], HR2.out, below_upd (below_upd (below_upd (below_upd HB3.out (Nat.le_succ _) _ _) (Nat.le_succ _) _ _) (Nat.le_succ _) _ _) (Nat.le_succ _) _ _⟩
  · have hb : (c.code != 0) = true := by simpa using h0
    have HJT := hid (show jtext c = [] from if_neg (fun h => h0 h.1))
    have HRD := hid (RdF.stay (c := c) numR hf h0)
    obtain ⟨_, _, _, _, hbw⟩ := box2 (Below.refl ((w.alloc (.cells #[Sv c.s, .int .i64 c.pos, .int .i64 c.en, .int .i64 c.code] 32)).alloc (.cells #[Sv c.s, .int .i64 c.pos, .int .i64 c.en, .int .i64 c.code] 32)).heap.size _)
    have HBW := hid hbw
    clear h0 hbw
    unfold agg
    go_enter Try.func13, Try.ntmps13
    go_wp2_with fail
    exact bodyPost_ret (v := .tuple #[.agg #[Sv c.s, .int .i64 c.pos, .int .i64 c.en, .int .i64 c.code], Sv []]) (by simp only [results, Try.results13]; go_simp) rfl ⟨c, by rw [HJT.out], HRD.out, (by repeat (first | exact HBW.out | (with_reducible refine Below.setCell ?_ (Nat.le_succ _) _)))⟩
end Go.Proofs.Ytgfdmdikiickpaa
