/-
  Walk of the reference's Split of package jnum.
-/
import Derived.Test.YtgfdmdikiickpaaJnumRef
import Derived.Deep.DeepCutAuto
namespace Go.Proofs.Ytgfdmdikiickpaa
open Go.RowKit

def Pv (wh be po : List UInt8) (e : Nat) (c : Int) : Array Value := #[Sv wh, Sv be, Sv po, .int .i64 (e : Int), .int .i64 c]
theorem eatN_bd (m a : List UInt8) : eatN m a = 0 ∨ eatN m a = 1 := by have := (eatN_le m a).1; omega
/-- The result's block and the parts' block. -/
structure PX (w u : World) (wh be po : List UInt8) (e : Nat) (c : Int) : Prop where
  res : Blk u w.heap.size 48 (Pv [] [] [] 0 0)
  p : Blk u (w.heap.size + 1) 48 (Pv wh be po e c)
  bel : Below w.heap.size w u
theorem eatN_dup (b : UInt8) (a : List UInt8) : eatN [b, b] a = eatN [b] a := by
  cases a with
  | nil => rfl
  | cons x r => simp [eatN]
theorem oneB_dup {s : List UInt8} {k : Nat} {b : UInt8} {a : List UInt8} (ha : s.drop k = a) : oneB s k [b, b] = decide (eatN [b] a = 1) := by
  unfold oneB; rw [ha, eatN_dup]
theorem PX.p3 {w u : World} {wh be po : List UInt8} {e : Nat} {c : Int} (h : PX w u wh be po e c) : u.cell? ⟨w.heap.size + 1, 0, none⟩ = some (Sv wh) ∧ u.cell? ⟨w.heap.size + 1, 1, none⟩ = some (Sv be) ∧ u.cell? ⟨w.heap.size + 1, 2, none⟩ = some (Sv po) ∧ u.cell? ⟨w.heap.size + 1, 3, none⟩ = some (.int .i64 (e : Int)) ∧ u.cell? ⟨w.heap.size + 1, 4, none⟩ = some (.int .i64 c) :=
  ⟨h.p.cell 0, h.p.cell 1, h.p.cell 2, h.p.cell 3, h.p.cell 4⟩
theorem PX.fr {w u : World} {wh be po : List UInt8} {e : Nat} {c : Int} (h : PX w u wh be po e c) : u.frozen? ⟨w.heap.size + 1, 0, none⟩ = false ∧ u.frozen? ⟨w.heap.size + 1, 1, none⟩ = false ∧ u.frozen? ⟨w.heap.size + 1, 2, none⟩ = false ∧ u.frozen? ⟨w.heap.size + 1, 3, none⟩ = false ∧ u.frozen? ⟨w.heap.size + 1, 4, none⟩ = false :=
  ⟨h.p.frozen 0, h.p.frozen 1, h.p.frozen 2, h.p.frozen 3, h.p.frozen 4⟩
theorem bel_at {B : Nat} {a w : World} (h : Below B a w) {g : Nat} (hg : B ≤ g) (o : Nat) (v : Value) : Below B a (w.setCell ⟨g, o, none⟩ v) := by
  have hg' : B ≤ (⟨g, o, none⟩ : Addr).block := hg
  with_reducible exact Below.setCell h hg' v
theorem PX.set {w u : World} {wh be po wh' be' po' : List UInt8} {e e' : Nat} {c c' : Int} (h : PX w u wh be po e c) (i : Nat) (v : Value) (hv : (Pv wh be po e c).setIfInBounds i v = Pv wh' be' po' e' c') : PX w (u.setCell ⟨w.heap.size + 1, i, none⟩ v) wh' be' po' e' c' :=
  ⟨h.res.far (p := ⟨w.heap.size + 1, i, none⟩) (show w.heap.size ≠ w.heap.size + 1 by omega) v, hv ▸ h.p.set_ i v, bel_at h.bel (Nat.le_succ _) i v⟩
set_option maxRecDepth 100000 in
set_option maxHeartbeats 8000000 in
theorem jsplit_any (s : List UInt8) (k : Nat) (w : World) (hs : s.length ≤ 1000000) (hk : k ≤ s.length) :
    Calls Try.prog 22 #[Sv s, .int .i64 (k : Int)] w fun e w' => e = .returned (.agg (Pv (pWhole (s.drop k)) (pBehind (s.drop k)) (pPower (s.drop k)) (k + pE3 (s.drop k)) (pC3 (s.drop k)))) ∧ Below w.heap.size w w' := by
  obtain ⟨hA, hB, _, _, hbw⟩ := box2 (Below.refl ((w.alloc (.cells #[Sv [], Sv [], Sv [], .int .i64 0, .int .i64 0] 48)).alloc (.cells #[Sv [], Sv [], Sv [], .int .i64 0, .int .i64 0] 48)).heap.size _)
  have HX0 : Hid (PX w ((w.alloc (.cells #[Sv [], Sv [], Sv [], .int .i64 0, .int .i64 0] 48)).alloc (.cells #[Sv [], Sv [], Sv [], .int .i64 0, .int .i64 0] 48)) [] [] [] 0 0) := hid ⟨hA, hB, hbw⟩
  obtain ⟨a, ha⟩ : ∃ a, s.drop k = a := ⟨_, rfl⟩
  have hal : a.length = s.length - k := by rw [← ha, List.length_drop]
  have hdr : ∀ n : Nat, s.drop (k + n) = a.drop n := fun n => by rw [← ha, List.drop_drop]
  rw [ha]
  obtain ⟨F, hF⟩ : ∃ F, k + pN0 a = F := ⟨_, rfl⟩
  obtain ⟨E1, hE1⟩ : ∃ E, k + pE1 a = E := ⟨_, rfl⟩
  obtain ⟨E2, hE2⟩ : ∃ E, k + pE2 a = E := ⟨_, rfl⟩
  obtain ⟨E3, hE3⟩ : ∃ E, k + pE3 a = E := ⟨_, rfl⟩
  obtain ⟨C1, hC1⟩ : ∃ C, (pR1 a).1 = C := ⟨_, rfl⟩
  obtain ⟨C2, hC2⟩ : ∃ C, pC2 a = C := ⟨_, rfl⟩
  obtain ⟨C3, hC3⟩ : ∃ C, pC3 a = C := ⟨_, rfl⟩
  obtain ⟨WH, hWH⟩ : ∃ L, pWhole a = L := ⟨_, rfl⟩
  obtain ⟨BE, hBE⟩ : ∃ L, pBehind a = L := ⟨_, rfl⟩
  obtain ⟨PO, hPO⟩ : ∃ L, pPower a = L := ⟨_, rfl⟩
  have b1 := pE1_le a
  have b2 := pE2_le a
  have b3 := pE3_le a
  have e1 : pE1 a = pN0 a + (pR1 a).2 := rfl
  have lF : F ≤ E1 := by omega
  have lE1 : E1 ≤ s.length := by omega
  have lE2 : E2 ≤ s.length := by omega
  have lE3 : E3 ≤ s.length := by omega
  have HDF := hid (show s.drop F = a.drop (pN0 a) by rw [← hF]; exact hdr _)
  have HDE1 := hid (show s.drop E1 = a.drop (pE1 a) by rw [← hE1]; exact hdr _)
  have HDE2 := hid (show s.drop E2 = a.drop (pE2 a) by rw [← hE2]; exact hdr _)
  have HWH := hid (show (s.drop F).take (E1 - F) = WH by rw [HDF.out, ← hWH, pWhole]; congr 1; omega)
  have HK := hid (show s.drop k = a from ha)
  -- the first digits
  have HZ1 := hid (show oneB s F [48, 48] = true → F + 1 = E1 ∧ (0 : Int) = C1 from fun h => by
    have h1 := of_decide_eq_true ((oneB_dup HDF.out).symm.trans h)
    have : pR1 a = (0, 1) := by unfold pR1 wholeR; rw [if_pos h1]
    rw [this] at e1 hC1
    exact ⟨by omega, hC1⟩)
  have HZ0 := hid (show oneB s F [48, 48] = false → F + (digR (s.drop F)).2 = E1 ∧ (digR (s.drop F)).1 = C1 from fun h => by
    have h1 := of_decide_eq_false ((oneB_dup HDF.out).symm.trans h)
    have : pR1 a = digR (s.drop F) := by unfold pR1 wholeR; rw [if_neg h1, HDF.out]
    rw [← this]
    exact ⟨by omega, hC1⟩)
  -- the dot
  have HDT := hid (show C1 = 0 → pDot a = oneB s E1 [46, 46] from fun h => by
    rw [oneB_dup HDE1.out]
    unfold pDot
    rw [hC1, h]; simp)
  have HDN := hid (show C1 ≠ 0 → pDot a = false from fun h => decide_eq_false (fun q => h (by rw [← hC1]; exact q.1)))
  have HB1 := hid (show pDot a = true → E1 + 1 ≤ s.length ∧ (E1 + 1) + (digR (s.drop (E1 + 1))).2 = E2 ∧ (digR (s.drop (E1 + 1))).1 = C2 ∧ (s.drop (E1 + 1)).take (E2 - (E1 + 1)) = BE from fun h => by
    have hl := pdot_len h
    have hd : s.drop (E1 + 1) = a.drop (pE1 a + 1) := by rw [← hE1]; exact hdr (pE1 a + 1)
    have h2 : pE2 a = pE1 a + 1 + (pR2 a).2 := by unfold pE2; rw [if_pos h]
    have h3 : pC2 a = (pR2 a).1 := by unfold pC2; rw [if_pos h]
    have hr : digR (s.drop (E1 + 1)) = pR2 a := by rw [hd]; rfl
    rw [hr]
    refine ⟨by omega, by omega, by rw [← h3]; exact hC2, ?_⟩
    rw [hd, ← hBE, pBehind, if_pos h]
    congr 1; omega)
  have HB0 := hid (show pDot a = false → E1 = E2 ∧ C1 = C2 ∧ [] = BE from fun h => by
    have h2 : pE2 a = pE1 a := by unfold pE2; rw [h]; rfl
    have h3 : pC2 a = (pR1 a).1 := by unfold pC2; rw [h]; rfl
    exact ⟨by omega, by rw [← hC1, ← hC2, h3], by rw [← hBE, pBehind, h]; rfl⟩)
  -- the power
  have HXT := hid (show C2 = 0 → pExp a = oneB s E2 [101, 69] from fun h => by
    unfold oneB pExp
    rw [hC2, h, HDE2.out]; simp)
  have HXN := hid (show C2 ≠ 0 → pExp a = false from fun h => decide_eq_false (fun q => h (by rw [← hC2]; exact q.1)))
  have HP1 := hid (show pExp a = true → E2 + 1 ≤ s.length ∧ ∀ m : Nat, m = pN3 a → (E2 + 1 + m ≤ s.length ∧ (E2 + 1 + m) + (digR (s.drop (E2 + 1 + m))).2 = E3 ∧ (digR (s.drop (E2 + 1 + m))).1 = C3 ∧ (s.drop (E2 + 1)).take (E3 - (E2 + 1)) = PO) from fun h => by
    have hl := pexp_len h
    have h3l : pN3 a ≤ a.length - (pE2 a + 1) := by
      have := (eatN_le [43, 45] (a.drop (pE2 a + 1))).2
      rw [List.length_drop] at this
      exact this
    refine ⟨by omega, ?_⟩
    rintro m rfl
    have hd : s.drop (E2 + 1) = a.drop (pE2 a + 1) := by rw [← hE2]; exact hdr (pE2 a + 1)
    have hd3 : s.drop (E2 + 1 + pN3 a) = a.drop (pE2 a + 1 + pN3 a) := by rw [← hE2, show k + pE2 a + 1 + pN3 a = k + (pE2 a + 1 + pN3 a) by omega]; exact hdr (pE2 a + 1 + pN3 a)
    have h2 : pE3 a = pE2 a + 1 + pN3 a + (pR3 a).2 := by unfold pE3; rw [if_pos h]
    have h3 : pC3 a = (pR3 a).1 := by unfold pC3; rw [if_pos h]
    have hr : digR (s.drop (E2 + 1 + pN3 a)) = pR3 a := by rw [hd3]; rfl
    rw [hr]
    refine ⟨by omega, by omega, by rw [← h3]; exact hC3, ?_⟩
    rw [hd, ← hPO, pPower, if_pos h]
    congr 1; omega)
  have HN3 := hid (show pN3 a = eatN [43, 45] (s.drop (E2 + 1)) by rw [show s.drop (E2 + 1) = a.drop (pE2 a + 1) by rw [← hE2]; exact hdr (pE2 a + 1)]; rfl)
  have HP0 := hid (show pExp a = false → E2 = E3 ∧ C2 = C3 ∧ [] = PO from fun h => by
    have h2 : pE3 a = pE2 a := by unfold pE3; rw [h]; rfl
    have h3 : pC3 a = pC2 a := by unfold pC3; rw [h]; rfl
    exact ⟨by omega, by rw [← hC2, ← hC3, h3], by rw [← hPO, pPower, h]; rfl⟩)
  have HFN := hid hF
  have HFIN := hid (show Pv (pWhole a) (pBehind a) (pPower a) (k + pE3 a) (pC3 a) = Pv WH BE PO E3 C3 by rw [hWH, hBE, hPO, hE3, hC3])
  clear hA hB hbw ha hdr hE1 hE2 hE3 hC1 hC2 hC3 hWH hBE hPO b1 b2 b3 e1 hal hF
  go_enter Try.func22, Try.ntmps22
  go_upto_if 9 with ((go_at_call 34; refine (one_any s k 45 45 _ hs hk).mono ?_; rintro e w' ⟨rfl, rfl⟩))
  go_cut [1] (fun s1 wx => s1 = .int .i64 (F : Int) ∧ PX w wx [] [] [] 0 0)
  case first =>
    cases hq : oneB s k [45, 45] with
    | true =>
      have h1 : eatN [45] a = 1 := of_decide_eq_true ((oneB_dup HK.out).symm.trans hq)
      have HN := hid (show k + 1 = F by rw [← HFN.out, show pN0 a = 1 from h1])
      clear h1 hq
      go_wp2_with fail
      go_meet
      exact ⟨by rw [← HN.out]; go_num, HX0.out⟩
    | false =>
      have h1 : eatN [45] a = 0 := by
        have := of_decide_eq_false ((oneB_dup HK.out).symm.trans hq)
        rcases eatN_bd [45] a with h | h
        · exact h
        · exact absurd h this
      have HN := hid (show k = F by rw [← HFN.out, show pN0 a = 0 from h1]; rfl)
      clear h1 hq
      go_wp2_with fail
      go_meet
      exact ⟨by rw [← HN.out], HX0.out⟩
  case rest =>
    obtain ⟨rfl, hX⟩ := hcut
    have HX := hid hX
    clear hX HX0
    obtain ⟨p3a, p3b, p3c, p3d, p3e⟩ := HX.out.p3
    obtain ⟨f3a, f3b, f3c, f3d, f3e⟩ := HX.out.fr
    go_upto_if 15 with ((go_at_call 34; refine (one_any s F 48 48 _ hs (by omega)).mono ?_; rintro e w' ⟨rfl, rfl⟩))
    go_cut [] (fun wx => PX w wx [] [] [] E1 C1)
    case first =>
      cases hq : oneB s F [48, 48] with
      | true =>
        obtain ⟨z1, z2⟩ := HZ1.out hq
        subst z2
        have Z1 := hid z1
        clear hq z1
        go_wp2_with fail
        go_meet
        rw [← Z1.out]
        exact HX.out.set 3 _ rfl
      | false =>
        obtain ⟨z1, z2⟩ := HZ0.out hq
        have Z1 := hid z1
        have Z2 := hid z2
        clear hq z1 z2
        go_wp2_with fail
        refine (need_any s F _ hs (by omega)).mono ?_; rintro e w' ⟨rfl, rfl⟩
        rw [Z1.out, Z2.out]
        go_wp2_with fail
        go_meet
        exact (HX.out.set (e' := E1) 3 _ rfl).set 4 _ rfl
    case rest =>
      have HX1 := hid hcut
      clear hcut HX p3a p3b p3c p3d p3e f3a f3b f3c f3d f3e
      obtain ⟨p3a, p3b, p3c, p3d, p3e⟩ := HX1.out.p3
      obtain ⟨f3a, f3b, f3c, f3d, f3e⟩ := HX1.out.fr
      go_upto_region 9 with fail
      have HX2 := hid (HX1.out.set (wh' := WH) 0 (Sv ((s.drop F).take (E1 - F))) (by rw [HWH.out]; rfl))
      clear HX1 p3a p3b p3c p3d p3e f3a f3b f3c f3d f3e
      go_cut [41] (fun t wx => t = .bool (pDot a) ∧ PX w wx WH [] [] E1 C1)
      case first =>
        obtain ⟨p3a, p3b, p3c, p3d, p3e⟩ := HX2.out.p3
        by_cases h1 : C1 = 0
        · have HD := hid (HDT.out h1)
          have q1 : (C1 == 0) = true := by simpa using h1
          clear h1
          go_wp2_with fail
          refine (one_any s E1 46 46 _ hs (by omega)).mono ?_; rintro e w' ⟨rfl, rfl⟩
          rw [← HD.out]
          go_wp2_with fail
          go_meet
          exact ⟨rfl, HX2.out⟩
        · have HD := hid (HDN.out h1)
          have q1 : (C1 == 0) = false := by simpa using h1
          clear h1
          go_wp2_with fail
          go_meet
          exact ⟨by rw [HD.out], HX2.out⟩
      case rest =>
        obtain ⟨rfl, hX⟩ := hcut
        have HX3 := hid hX
        clear hX HX2
        obtain ⟨p3a, p3b, p3c, p3d, p3e⟩ := HX3.out.p3
        obtain ⟨f3a, f3b, f3c, f3d, f3e⟩ := HX3.out.fr
        go_upto_if 41 with fail
        go_cut [] (fun wx => PX w wx WH BE [] E2 C2)
        case first =>
          cases hq : pDot a with
          | true =>
            obtain ⟨z1, z2, z3, z4⟩ := HB1.out hq
            have Z2 := hid z2
            have Z3 := hid z3
            have Z4 := hid z4
            have lG : E1 + 1 ≤ E2 := by omega
            clear hq z2 z3 z4
            go_wp2_with fail
            refine (need_any s (E1 + 1) _ hs z1).mono ?_; rintro e w' ⟨rfl, rfl⟩
            rw [Z2.out, Z3.out]
            go_wp2_with fail
            go_meet
            exact ((HX3.out.set (e' := E2) 3 _ rfl).set 4 _ rfl).set (be' := BE) 1 _ (by rw [← Z4.out]; rfl)
          | false =>
            obtain ⟨z1, z2, z3⟩ := HB0.out hq
            clear hq
            subst z1 z2 z3
            go_wp2_with fail
            go_meet
            exact HX3.out
        case rest =>
          have HX4 := hid hcut
          clear hcut HX3 p3a p3b p3c p3d p3e f3a f3b f3c f3d f3e
          go_upto_region 13 with fail
          go_cut [67] (fun t wx => t = .bool (pExp a) ∧ PX w wx WH BE [] E2 C2)
          case first =>
            obtain ⟨p3a, p3b, p3c, p3d, p3e⟩ := HX4.out.p3
            by_cases h1 : C2 = 0
            · have HD := hid (HXT.out h1)
              have q1 : (C2 == 0) = true := by simpa using h1
              clear h1
              go_wp2_with fail
              refine (one_any s E2 101 69 _ hs (by omega)).mono ?_; rintro e w' ⟨rfl, rfl⟩
              rw [← HD.out]
              go_wp2_with fail
              go_meet
              exact ⟨rfl, HX4.out⟩
            · have HD := hid (HXN.out h1)
              have q1 : (C2 == 0) = false := by simpa using h1
              clear h1
              go_wp2_with fail
              go_meet
              exact ⟨by rw [HD.out], HX4.out⟩
          case rest =>
            obtain ⟨rfl, hX⟩ := hcut
            have HX5 := hid hX
            clear hX HX4
            obtain ⟨p3a, p3b, p3c, p3d, p3e⟩ := HX5.out.p3
            obtain ⟨f3a, f3b, f3c, f3d, f3e⟩ := HX5.out.fr
            go_upto_if 67 with fail
            go_cut [] (fun wx => PX w wx WH BE PO E3 C3)
            case first =>
              cases hq : pExp a with
              | true =>
                obtain ⟨z1, zz⟩ := HP1.out hq
                cases hq1 : oneB s (E2 + 1) [43, 45] with
                | true =>
                  have hn : 1 = pN3 a := by rw [HN3.out]; exact (of_decide_eq_true hq1).symm
                  obtain ⟨y1, z2, z3, z4⟩ := zz 1 hn
                  have Z2 := hid z2
                  have Z3 := hid z3
                  have Z4 := hid z4
                  have HO := hid hq1
                  have lG : E2 + 1 ≤ E3 := by omega
                  clear hq hq1 hn z2 z3 z4 zz
                  go_wp2_with fail
                  refine (one_any s (E2 + 1) 43 45 _ hs z1).mono ?_; rintro e w' ⟨rfl, rfl⟩
                  rw [HO.out]
                  go_wp2_with fail
                  refine (need_any s (E2 + 1 + 1) _ hs y1).mono ?_; rintro e w' ⟨rfl, rfl⟩
                  rw [Z2.out, Z3.out]
                  go_wp2_with fail
                  go_meet
                  exact ((HX5.out.set (e' := E3) 3 _ rfl).set 4 _ rfl).set (po' := PO) 2 _ (by rw [← Z4.out]; rfl)
                | false =>
                  have hn : 0 = pN3 a := by
                    rw [HN3.out]
                    have := of_decide_eq_false hq1
                    rcases eatN_bd [43, 45] (s.drop (E2 + 1)) with h | h
                    · exact h.symm
                    · exact absurd h this
                  obtain ⟨y1, z2, z3, z4⟩ := zz 0 hn
                  have Z2 := hid (show (E2 + 1) + (digR (s.drop (E2 + 1))).2 = E3 from z2)
                  have Z3 := hid (show (digR (s.drop (E2 + 1))).1 = C3 from z3)
                  have Z4 := hid z4
                  have HO := hid hq1
                  have lG : E2 + 1 ≤ E3 := by omega
                  clear hq hq1 hn z2 z3 z4 zz
                  go_wp2_with fail
                  refine (one_any s (E2 + 1) 43 45 _ hs z1).mono ?_; rintro e w' ⟨rfl, rfl⟩
                  rw [HO.out]
                  go_wp2_with fail
                  refine (need_any s (E2 + 1) _ hs z1).mono ?_; rintro e w' ⟨rfl, rfl⟩
                  rw [Z2.out, Z3.out]
                  go_wp2_with fail
                  go_meet
                  exact ((HX5.out.set (e' := E3) 3 _ rfl).set 4 _ rfl).set (po' := PO) 2 _ (by rw [← Z4.out]; rfl)
              | false =>
                obtain ⟨z1, z2, z3⟩ := HP0.out hq
                clear hq
                subst z1 z2 z3
                go_wp2_with fail
                go_meet
                exact HX5.out
            case rest =>
              have HX6 := hid hcut
              clear hcut HX5 p3a p3b p3c p3d p3e f3a f3b f3c f3d f3e
              obtain ⟨p3a, p3b, p3c, p3d, p3e⟩ := HX6.out.p3
              have r0 : wc.cell? ⟨w.heap.size, 0, none⟩ = some (Sv []) := HX6.out.res.cell 0
              have r1 : wc.cell? ⟨w.heap.size, 1, none⟩ = some (Sv []) := HX6.out.res.cell 1
              have r2 : wc.cell? ⟨w.heap.size, 2, none⟩ = some (Sv []) := HX6.out.res.cell 2
              have r3 : wc.cell? ⟨w.heap.size, 3, none⟩ = some (.int .i64 0) := HX6.out.res.cell 3
              have r4 : wc.cell? ⟨w.heap.size, 4, none⟩ = some (.int .i64 0) := HX6.out.res.cell 4
              have g0 := HX6.out.res.frozen 0
              have g1 := HX6.out.res.frozen 1
              have g2 := HX6.out.res.frozen 2
              have g3 := HX6.out.res.frozen 3
              have g4 := HX6.out.res.frozen 4
              have HBL := hid HX6.out.bel
              clear HX6
              go_wp2_with fail
              exact bodyPost_ret (v := .agg (Pv WH BE PO E3 C3)) (by unfold Pv; simp only [results, Try.results22]; go_simp) rfl ⟨by rw [HFIN.out], bel_at (bel_at (bel_at (bel_at (bel_at HBL.out (Nat.le_refl _) _ _) (Nat.le_refl _) _ _) (Nat.le_refl _) _ _) (Nat.le_refl _) _ _) (Nat.le_refl _) _ _⟩
end Go.Proofs.Ytgfdmdikiickpaa
