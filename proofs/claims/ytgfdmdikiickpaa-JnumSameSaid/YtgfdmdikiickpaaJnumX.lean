/-
  Walk of package jnum: a number's parts.
-/
import Derived.Test.YtgfdmdikiickpaaJnumW
import Derived.Deep.DeepCutAuto
import Derived.Deep.CutBlock
namespace Go.Proofs.Ytgfdmdikiickpaa
open Go.RowKit

def Qv (m : Bool) (wh be : List UInt8) (po : Int) : Array Value := #[.bool m, Sv wh, Sv be, .int .i64 po]
structure PY (w u : World) (m : Bool) (wh be : List UInt8) (po : Int) : Prop where
  res : Blk u w.heap.size 44 (Qv false [] [] 0)
  p : Blk u (w.heap.size + 1) 44 (Qv m wh be po)
  bel : Below w.heap.size w u
theorem PY.cells {w u : World} {m : Bool} {wh be : List UInt8} {po : Int} (h : PY w u m wh be po) : u.cell? ⟨w.heap.size + 1, 0, none⟩ = some (.bool m) ∧ u.cell? ⟨w.heap.size + 1, 1, none⟩ = some (Sv wh) ∧ u.cell? ⟨w.heap.size + 1, 2, none⟩ = some (Sv be) ∧ u.cell? ⟨w.heap.size + 1, 3, none⟩ = some (.int .i64 po) :=
  ⟨h.p.cell 0, h.p.cell 1, h.p.cell 2, h.p.cell 3⟩
theorem PY.fr {w u : World} {m : Bool} {wh be : List UInt8} {po : Int} (h : PY w u m wh be po) : u.frozen? ⟨w.heap.size + 1, 0, none⟩ = false ∧ u.frozen? ⟨w.heap.size + 1, 1, none⟩ = false ∧ u.frozen? ⟨w.heap.size + 1, 2, none⟩ = false ∧ u.frozen? ⟨w.heap.size + 1, 3, none⟩ = false :=
  ⟨h.p.frozen 0, h.p.frozen 1, h.p.frozen 2, h.p.frozen 3⟩
theorem below_at {B : Nat} {a w : World} (h : Below B a w) {g : Nat} (hg : B ≤ g) (o : Nat) (v : Value) : Below B a (w.setCell ⟨g, o, none⟩ v) := by
  have hg' : B ≤ (⟨g, o, none⟩ : Addr).block := hg
  with_reducible exact Below.setCell h hg' v
theorem PY.set {w u : World} {m m' : Bool} {wh be wh' be' : List UInt8} {po po' : Int} (h : PY w u m wh be po) (i : Nat) (v : Value) (hv : (Qv m wh be po).setIfInBounds i v = Qv m' wh' be' po') : PY w (u.setCell ⟨w.heap.size + 1, i, none⟩ v) m' wh' be' po' :=
  ⟨h.res.far (p := ⟨w.heap.size + 1, i, none⟩) (show w.heap.size ≠ w.heap.size + 1 by omega) v, hv ▸ h.p.set_ i v, below_at h.bel (Nat.le_succ _) i v⟩
theorem PY.drew {w u : World} {m : Bool} {wh be : List UInt8} {po : Int} (h : PY w u m wh be po) : PY w u.drew m wh be po := ⟨h.res.drew, h.p.drew, h.bel.drew⟩
theorem PY.ext {w u u' : World} {m : Bool} {wh be : List UInt8} {po : Int} (h : PY w u m wh be po) (k : Below u.heap.size u u') : PY w u' m wh be po :=
  ⟨h.res.below k h.res.lt, h.p.below k h.p.lt, h.bel.trans (k.mono h.bel.size)⟩
theorem digs_no {l : List UInt8} (h : Digs l) {k : Nat} (hk : k < l.length) : (byteAt l k == 101) = false ∧ (byteAt l k == 69) = false ∧ (byteAt l k == 46) = false := by
  have := h k hk
  refine ⟨?_, ?_, ?_⟩ <;> (rw [beq_eq_false_iff_ne]; omega)
theorem byteAt_mid (a : List UInt8) (b : UInt8) (r : List UInt8) : byteAt (a ++ b :: r) a.length = bi b := by
  rw [byteAt_app_right _ _ _ (Nat.le_refl _), Nat.sub_self]; rfl
theorem numOk_pos {s : List UInt8} (h : numOk s = true) : 0 < s.length := by
  obtain ⟨hc, he⟩ := numOk_iff h
  rcases Nat.eq_zero_or_pos s.length with h0 | h0
  · obtain rfl := List.eq_nil_of_length_eq_zero h0
    exact absurd hc (by decide)
  · exact h0
set_option maxRecDepth 100000 in
set_option maxHeartbeats 8000000 in
theorem split_any (s : List UInt8) (w : World) (hs : s.length ≤ 1000000) (hok : numOk s = true) :
    Calls Try.prog 19 #[Sv s] w fun e w' => e = .returned (.agg (Qv (decide (pN0 s = 1)) (pWhole s) (pBehind s) (powV (pPower s)))) ∧ Below w.heap.size w w' := by
  obtain ⟨hA, hB, _, _, hbw⟩ := box2 (Below.refl ((w.alloc (.cells #[.bool false, Sv [], Sv [], .int .i64 0] 44)).alloc (.cells #[.bool false, Sv [], Sv [], .int .i64 0] 44)).heap.size _)
  have HX0 : Hid (PY w ((w.alloc (.cells #[.bool false, Sv [], Sv [], .int .i64 0] 44)).alloc (.cells #[.bool false, Sv [], Sv [], .int .i64 0] 44)) false [] [] 0) := hid ⟨hA, hB, hbw⟩
  have hpos := numOk_pos hok
  obtain ⟨de, dx, hsh, d1, d2, x1, x2⟩ := num_shape hok
  have hdw := digs_whole s
  have hdb := digs_behind s
  have hn0 : pN0 s = 0 ∨ pN0 s = 1 := by have := (eatN_le [45] s).1; unfold pN0; omega
  have hm1 : pN0 s = 1 → byteAt s 0 = 45 := fun h => by
    obtain ⟨b, r, rfl, hb⟩ := eatN_cons h
    have : b = 45 := by simpa using hb
    subst this; rfl
  have hm0 : pN0 s = 0 → byteAt s 0 ≠ 45 := fun h => by
    cases s with
    | nil => simp at hpos
    | cons b r =>
      unfold pN0 at h
      simp only [eatN] at h
      split at h
      · cases h
      · rename_i hb
        intro e
        exact hb (by simp; exact bi_inj e)
  obtain ⟨L, hL⟩ : ∃ L, s.drop (pN0 s) = L := ⟨_, rfl⟩
  have hLl : L.length ≤ s.length := by rw [← hL, List.length_drop]; omega
  rw [hL] at hsh
  obtain ⟨WH, hWH⟩ : ∃ W, pWhole s = W := ⟨_, rfl⟩
  obtain ⟨BE, hBE⟩ : ∃ W, pBehind s = W := ⟨_, rfl⟩
  obtain ⟨PO, hPO⟩ : ∃ W, pPower s = W := ⟨_, rfl⟩
  rw [hWH] at hsh hdw
  rw [hBE] at d1 d2 hdb
  rw [hPO] at x1 x2
  obtain ⟨M, hM⟩ : ∃ M, decide (pN0 s = 1) = M := ⟨_, rfl⟩
  rw [hWH, hBE, hPO, hM]
  obtain ⟨HE, hHE⟩ : ∃ H, WH ++ de = H := ⟨_, rfl⟩
  rw [hHE] at hsh
  have hLH : L.length = HE.length + dx.length := by rw [hsh, List.length_append]
  have hHW : HE.length = WH.length + de.length := by rw [← hHE, List.length_append]
  -- no letter e in the head
  have hne : ∀ k, k < HE.length → (byteAt L k == 101) = false ∧ (byteAt L k == 69) = false := fun k hk => by
    rw [hsh, byteAt_app_left _ _ _ hk, ← hHE]
    rcases Nat.lt_or_ge k WH.length with h | h
    · rw [byteAt_app_left _ _ _ h]; exact ⟨(digs_no hdw h).1, (digs_no hdw h).2.1⟩
    · rw [byteAt_app_right _ _ _ h]
      cases hd : pDot s with
      | false => have := (d2 hd).1; rw [this] at hHW; simp at hHW; omega
      | true =>
        rw [d1 hd] at hHW ⊢
        cases hq : k - WH.length with
        | zero => exact ⟨rfl, rfl⟩
        | succ j =>
          rw [byteAt_cons']
          have hj : j < BE.length := by simp at hHW; omega
          exact ⟨(digs_no hdb hj).1, (digs_no hdb hj).2.1⟩
  have hexp : HE.length < L.length → ∃ x, (x = 101 ∨ x = 69) ∧ byteAt L HE.length = bi x ∧ L.drop (HE.length + 1) = PO ∧ L.take HE.length = HE ∧ PO ≠ [] ∧ Digs (unS PO) := fun h => by
    cases hx : pExp s with
    | false => have := (x2 hx).1; rw [this] at hLH; simp at hLH; omega
    | true =>
      obtain ⟨x, hx1, hx2, hx3, hx4⟩ := x1 hx
      refine ⟨x, hx1, by rw [hsh, hx2, byteAt_mid], ?_, ?_, hx3, hx4⟩
      · rw [hsh, hx2, ← List.drop_drop, List.drop_left]; rfl
      · rw [hsh, List.take_left]
  have hend : ¬ HE.length < L.length → HE = L ∧ powV PO = 0 := fun h => by
    cases hx : pExp s with
    | false =>
      obtain ⟨h1, h2⟩ := x2 hx
      rw [hsh, h1, h2, List.append_nil]
      exact ⟨rfl, rfl⟩
    | true =>
      obtain ⟨x, _, hx2, _, _⟩ := x1 hx
      rw [hx2] at hLH; simp at hLH; omega
  -- the dot in the head
  have hnd : ∀ k, k < WH.length → (byteAt HE k == 46) = false := fun k hk => by
    rw [← hHE, byteAt_app_left _ _ _ hk]; exact (digs_no hdw hk).2.2
  have hdot : WH.length < HE.length → byteAt HE WH.length = 46 ∧ HE.drop (WH.length + 1) = BE ∧ HE.take WH.length = WH := fun h => by
    cases hd : pDot s with
    | false => have := (d2 hd).1; rw [this] at hHW; simp at hHW; omega
    | true =>
      rw [← hHE, d1 hd, byteAt_mid, ← List.drop_drop, List.drop_left, List.take_left]
      exact ⟨rfl, rfl, rfl⟩
  have hnodot : ¬ WH.length < HE.length → HE = WH ∧ BE = [] := fun h => by
    cases hd : pDot s with
    | false => obtain ⟨h1, h2⟩ := d2 hd; rw [← hHE, h1, h2, List.append_nil]; exact ⟨rfl, rfl⟩
    | true => rw [d1 hd] at hHW; simp at hHW; omega
  have HNE := hid hne
  have HEXP := hid hexp
  have HEND := hid hend
  have HND := hid hnd
  have HDOT := hid hdot
  have HNOD := hid hnodot
  have HL := hid hL
  have HM := hid hM
  have lHE : HE.length ≤ L.length := by omega
  have lWH : WH.length ≤ HE.length := by omega
  have HM1 := hid hm1
  have HM0 := hid hm0
  have HN0 := hid hn0
  clear hA hB hbw hsh d1 d2 x1 x2 hdw hdb hWH hBE hPO hHE hne hexp hend hnd hdot hnodot hL hM hLH hHW hm1 hm0 hn0 hok
  obtain ⟨V, hV⟩ : ∃ V, powV PO = V := ⟨_, rfl⟩
  have EV := hid hV
  rw [hV]
  clear hV
  go_enter Try.func19, Try.ntmps19
  go_upto_if 8 with fail
  go_cut [0] (fun v wx => v = Sv L ∧ PY w wx M [] [] 0)
  case first =>
    rcases HN0.out with h0 | h1
    · have q : (byteAt s 0 == 45) = false := by rw [beq_eq_false_iff_ne]; exact HM0.out h0
      have e1 : s = L := by rw [← HL.out, h0]; rfl
      have e2 : M = false := by rw [← HM.out, h0]; rfl
      subst e1 e2
      clear h0
      go_wp2_with fail
      go_meet
      exact ⟨rfl, HX0.out⟩
    · have q : (byteAt s 0 == 45) = true := by rw [HM1.out h1]; rfl
      have e1 : s.drop 1 = L := by rw [← HL.out, h1]
      have e2 : M = true := by rw [← HM.out, h1]; rfl
      subst e2
      have E1 := hid e1
      have q1 : (1 : Int) ≤ (s.length : Int) := by omega
      clear h1 e1
      go_wp2_with fail
      obtain ⟨W, hW⟩ : ∃ W, ((w.alloc (.cells #[.bool false, Sv [], Sv [], .int .i64 0] 44)).alloc (.cells #[.bool false, Sv [], Sv [], .int .i64 0] 44)) = W := ⟨_, rfl⟩
      rw [hW] at HX0 ⊢
      clear hW
      obtain ⟨p0, p1, p2, p3⟩ := HX0.out.cells
      obtain ⟨f0, f1, f2, f3⟩ := HX0.out.fr
      go_region
      go_wp2_with fail
      go_meet
      exact ⟨by rw [← E1.out, List.drop_one], (HX0.out.set 0 _ rfl).drew⟩
  case rest =>
    obtain ⟨rfl, hX⟩ := hcut
    have HX1 := hid hX
    clear hX HX0
    go_upto_block 0 with fail
    go_cut [0] (fun v wx => v = Sv HE ∧ PY w wx M [] [] V)
    case first =>
      go_wp2_with fail
      go_loop [0, 14] (fun v i => v = Sv L ∧ ∃ k : Nat, k ≤ HE.length ∧ i = .int .i64 (k : Int)) (fun _ i => HE.length + 1 - (intOf i).toNat)
      case atStart => exact ⟨rfl, 0, Nat.zero_le _, rfl⟩
      case round =>
        obtain ⟨rfl, k, hk, rfl⟩ := hrel
        by_cases hlt : k < HE.length
        · obtain ⟨q1, q2⟩ := HNE.out k hlt
          have hll : k < L.length := by omega
          go_wp2_with fail
          go_round
          case rel => exact ⟨rfl, k + 1, by omega, by go_num⟩
          case measure => simp [intOf]; omega
        · obtain rfl : k = HE.length := by omega
          by_cases hll : HE.length < L.length
          · obtain ⟨x, hx, hb, h1, h2, h3, h4⟩ := HEXP.out hll
            have hPl : PO.length ≤ 1000000 := by rw [← h1, List.length_drop]; omega
            have hpw : ∀ u : World, Calls Try.prog 30 #[Sv (L.drop (HE.length + 1))] u fun e w' => e = .returned (.int .i64 V) ∧ u = w' := fun u => by
              have := power_any PO u hPl h3 h4
              rw [EV.out] at this
              rw [h1]; exact this
            have qa : (HE.length : Int) + 1 ≤ (L.length : Int) := by omega
            have qb : (0 : Int) ≤ (HE.length : Int) + 1 := by omega
            have qw : IntKind.i64.wrap ((HE.length : Int) + 1) = (HE.length : Int) + 1 := IntWalk.i64_in _ (by omega)
            have qt : ((HE.length : Int) + 1).toNat = HE.length + 1 := by omega
            have qc : (HE.length : Int) ≤ (L.length : Int) := by omega
            have HT := hid h2
            have HQ := hid h1
            obtain ⟨p0, p1, p2, p3⟩ := HX1.out.cells
            obtain ⟨f0, f1, f2, f3⟩ := HX1.out.fr
            clear h2 h3 h4 h1
            rcases hx with rfl | rfl
            · have q : (byteAt L HE.length == 101) = true := by rw [hb]; rfl
              clear hb
              go_wp2_with fail
              go_region_with (go_at_call 30; refine (hpw _).mono ?_; rintro e w1 ⟨rfl, rfl⟩)
              go_wp2_with fail
              go_meet
              exact ⟨by rw [HT.out], by repeat (first | exact HX1.out.set 3 _ rfl | exact HX1.out.drew.set 3 _ rfl | with_reducible refine PY.drew ?_)⟩
            · have q0 : (byteAt L HE.length == 101) = false := by rw [hb]; rfl
              have q : (byteAt L HE.length == 69) = true := by rw [hb]; rfl
              clear hb
              go_wp2_with fail
              go_region_with (go_at_call 30; refine (hpw _).mono ?_; rintro e w1 ⟨rfl, rfl⟩)
              go_wp2_with fail
              go_meet
              exact ⟨by rw [HT.out], by repeat (first | exact HX1.out.set 3 _ rfl | exact HX1.out.drew.set 3 _ rfl | with_reducible refine PY.drew ?_)⟩
          · obtain ⟨e1, e2⟩ := HEND.out hll
            have EE := hid e1
            have EV2 := hid (show (0 : Int) = V by rw [← EV.out, e2])
            clear e1 e2
            go_wp2_with fail
            go_meet
            exact ⟨by rw [EE.out], by rw [← EV2.out]; exact HX1.out⟩
    case rest =>
      obtain ⟨rfl, hX⟩ := hcut
      have HX2 := hid (hX.set (wh' := HE) 1 (Sv HE) rfl)
      obtain ⟨p0, p1, p2, p3⟩ := hX.cells
      obtain ⟨f0, f1, f2, f3⟩ := hX.fr
      clear hX HX1
      go_upto_block 2 with fail
      clear p0 p1 p2 p3 f0 f1 f2 f3
      go_cut [] (fun wx => PY w wx M WH BE V)
      case first =>
        go_wp2_with fail
        go_loop [41] (fun i => ∃ k : Nat, k ≤ WH.length ∧ i = .int .i64 (k : Int)) (fun i => WH.length + 1 - (intOf i).toNat)
        case atStart => exact ⟨0, Nat.zero_le _, rfl⟩
        case round =>
          obtain ⟨k, hk, rfl⟩ := hrel
          by_cases hlt : k < WH.length
          · have q1 := HND.out k hlt
            have hll : k < HE.length := by omega
            go_wp2_with fail
            go_round
            case rel => exact ⟨k + 1, by omega, by go_num⟩
            case measure => simp [intOf]; omega
          · obtain rfl : k = WH.length := by omega
            by_cases hll : WH.length < HE.length
            · obtain ⟨hb, h1, h2⟩ := HDOT.out hll
              have q : (byteAt HE WH.length == 46) = true := by rw [hb]; rfl
              have qa : (WH.length : Int) + 1 ≤ (HE.length : Int) := by omega
              have qb : (0 : Int) ≤ (WH.length : Int) + 1 := by omega
              have qw : IntKind.i64.wrap ((WH.length : Int) + 1) = (WH.length : Int) + 1 := IntWalk.i64_in _ (by omega)
              have qt : ((WH.length : Int) + 1).toNat = WH.length + 1 := by omega
              have qc : (WH.length : Int) ≤ (HE.length : Int) := by omega
              have HT := hid h2
              have HQ := hid h1
              obtain ⟨p0, p1, p2, p3⟩ := HX2.out.cells
              obtain ⟨f0, f1, f2, f3⟩ := HX2.out.fr
              clear h1 h2 hb
              go_wp2_with fail
              go_region
              go_wp2_with fail
              go_meet
              exact ((HX2.out.set (wh' := WH) 1 _ (by rw [HT.out]; rfl)).set (be' := BE) 2 _ (by rw [HQ.out]; rfl)).drew
            · obtain ⟨e1, e2⟩ := HNOD.out hll
              subst e2
              have HX3 : Hid (∀ X, PY w X M HE [] V → PY w X M WH [] V) := hid fun X h => by rw [← e1]; exact h
              clear e1
              go_wp2_with fail
              go_meet
              exact HX3.out _ HX2.out
      case rest =>
        obtain ⟨p0, p1, p2, p3⟩ := hcut.cells
        obtain ⟨f0, f1, f2, f3⟩ := hcut.fr
        have r0 : wc.cell? ⟨w.heap.size, 0, none⟩ = some (.bool false) := hcut.res.cell 0
        have r1 : wc.cell? ⟨w.heap.size, 1, none⟩ = some (Sv []) := hcut.res.cell 1
        have r2 : wc.cell? ⟨w.heap.size, 2, none⟩ = some (Sv []) := hcut.res.cell 2
        have r3 : wc.cell? ⟨w.heap.size, 3, none⟩ = some (.int .i64 0) := hcut.res.cell 3
        have g0 := hcut.res.frozen 0
        have g1 := hcut.res.frozen 1
        have g2 := hcut.res.frozen 2
        have g3 := hcut.res.frozen 3
        have HBL := hid hcut.bel
        clear hcut
        go_wp2_with fail
        exact bodyPost_ret (v := .agg (Qv M WH BE V)) (by unfold Qv; simp only [results, Try.results19]; go_simp) rfl ⟨rfl, below_at (below_at (below_at (below_at HBL.out (Nat.le_refl _) _ _) (Nat.le_refl _) _ _) (Nat.le_refl _) _ _) (Nat.le_refl _) _ _⟩
end Go.Proofs.Ytgfdmdikiickpaa
