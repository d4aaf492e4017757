/-
  The law WordLays: its walk.
-/
import Derived.Test.YtlibnfkehcpdkaaDoorWordLaw
import Derived.Test.YtlibnfkehcpdkaaDoorConv
import Derived.Test.YtlibnfkehcpdkaaDoorHighs
import Derived.Deep.DeepCutAuto
import Derived.Deep.RegionHeld3
import Derived.Deep.RegionWith
namespace Go.Proofs.YtlibnfkehcpdkaaDoor
open Go.RowKit

theorem Reads.cut1 {w : World} {B n : Nat} {A : Option Addr} {xs : List Value} (h : Reads w B 1 A n xs) {k c : Nat} (hk : k < n) (hc : n ≤ c) :
    Reads w B 1 (A.map (·.add k)) (n - k) (xs.drop k) := by
  obtain ⟨h1, h2⟩ := h
  refine ⟨by rw [List.length_drop, h1]; omega, fun hn => ?_⟩
  obtain ⟨ad, rfl, hb, hcell⟩ := h2 (by omega)
  refine ⟨ad.add k, rfl, by rw [block_of_add]; exact hb, fun j u hu => ?_⟩
  rw [add_of_add]
  exact hcell _ u (by rw [← hu, List.getElem?_drop])
/-- Bytes behind a text of the call's own: the conversion of all, and of the cut ones. -/
theorem Bs.both {w : World} {B : Nat} {v : Value} {p R : List UInt8} (h : Bs w B v (p ++ R)) (hR : 1 ≤ R.length) :
    ∃ A c, v = .slice A (p.length + R.length) c ∧ p.length + R.length ≤ c ∧
      (∀ u, Below B w u → (convert 34 9 (.slice A (p.length + R.length) c)).run Tryd.prog u = .ok (Sv (p ++ R)) u) ∧
      (∀ u, Below B w u → (convert 34 9 (.slice (A.map (·.add p.length)) R.length (c - p.length))).run Tryd.prog u = .ok (Sv R) u) := by
  have h0 := h
  obtain ⟨A, c, rfl, hlc, hr⟩ := h
  have hl : (p ++ R).length = p.length + R.length := List.length_append
  rw [hl] at hlc
  refine ⟨A, c, by rw [hl], hlc, fun u hu => by rw [← hl]; exact run_to_string (h0.below hu), fun u hu => run_to_string (B := B) ?_⟩
  have h2 := Reads.cut1 (hr.below hu) (k := p.length) (c := c) (by rw [hl]; omega) (by rw [hl]; exact hlc)
  refine ⟨_, _, rfl, by omega, ?_⟩
  rw [hl, show p.length + R.length - p.length = R.length by omega] at h2
  simpa [b8s, List.map_drop] using h2
/-- Bytes behind a text: what all of them, and the cut ones, say in every world to come. -/
theorem Bs.both2 {w : World} {v : Value} {p R : List UInt8} (h : Bs w w.heap.size v (p ++ R)) (hR : 1 ≤ R.length) :
    ∃ A c, v = .slice A (p.length + R.length) c ∧ p.length + R.length ≤ c ∧ StrOf w (.slice A (p.length + R.length) c) (p ++ R) ∧ StrOf w (.slice (A.map (·.add p.length)) R.length (c - p.length)) R := by
  obtain ⟨A, c, h1, h2, h3, h4⟩ := h.both hR
  exact ⟨A, c, h1, h2, h3, h4⟩
theorem StrOf.ext {w w' : World} {v : Value} {l : List UInt8} (h : StrOf w v l) (hb : Below w.heap.size w w') : StrOf w' v l := fun x hx => h x (ext_trans hb hx)
theorem rlow4_at (x : Int) (R : List UInt8) (w : World) (h : lowB x 4 = R) (h0 : 0 ≤ x) (h1 : x ≤ 4294967295) :
    Calls Tryd.prog 29 #[.int .u64 x, .int .i64 4] w fun e w' => e = .returned (Sv R) ∧ Below w.heap.size w w' := h ▸ rlow_any x 4 w h0 (by omega) (by omega) (by omega)
theorem rlow8_at (x : Int) (R : List UInt8) (w : World) (h : lowB x 8 = R) (h0 : 0 ≤ x) (h1 : x ≤ 18446744073709551615) :
    Calls Tryd.prog 29 #[.int .u64 x, .int .i64 8] w fun e w' => e = .returned (Sv R) ∧ Below w.heap.size w w' := h ▸ rlow_any x 8 w h0 h1 (by omega) (by omega)
theorem rhigh8_at (x : Int) (R : List UInt8) (w : World) (h : highB x 8 = R) (h0 : 0 ≤ x) (h1 : x ≤ 18446744073709551615) :
    Calls Tryd.prog 30 #[.int .u64 x, .int .i64 8] w fun e w' => e = .returned (Sv R) ∧ Below w.heap.size w w' := h ▸ rhigh_any x 8 w h0 h1 (by omega) (by omega)
/-- A cursor over a text that is read whole. -/
def Cu.past (R : List UInt8) : Cu := { s := R, pos := R.length, en := R.length, code := 0 }
theorem start_read (R : List UInt8) (n : Nat) (h : R.length = n) : (Cu.start R).text (n : Int) = R ∧ (Cu.start R).take (n : Int) = Cu.past R ∧ (Cu.past R).fin = 0 := by
  have hw : (Cu.start R).why (n : Int) = 0 := by
    unfold Cu.why Cu.start
    simp; omega
  refine ⟨?_, ?_, by simp [Cu.fin, Cu.past]⟩
  · subst h; rw [Cu.text, hw, if_pos rfl]; simp [Cu.start]
  · subst h; rw [Cu.take, hw, if_pos rfl]; simp [Cu.start, Cu.past]
theorem end_fit (R : List UInt8) (h : R.length ≤ 1125899906842624) : (Cu.past R).fit := ⟨Nat.le_refl _, Nat.le_refl _, h⟩
set_option maxRecDepth 100000 in
set_option maxHeartbeats 1000000 in
theorem wordLays_any (p : List UInt8) (u : Int) (w : World) (hh : Highs w) (hp : p.length ≤ 140737488351232) (u0 : 0 ≤ u) (u1 : u ≤ 18446744073709551615) :
    Calls Tryd.prog 6 #[Sv p, .int .u64 u] w fun e w' => e = .returned (.bool true) ∧ Below w.heap.size w w' := by
  obtain ⟨x, hx⟩ : ∃ x, u % 4294967296 = x := ⟨_, rfl⟩
  have x0 : 0 ≤ x := by omega
  have x1 : x ≤ 4294967295 := by omega
  have hxw : x % 18446744073709551616 = x := by omega
  go_enter Tryd.func6, Tryd.ntmps6
  go_wp2_with (refine wpList_to_bytes rfl _ rfl p rfl ?_; intro v1 w1 hv1 hb1)
  refine (low32_any _ p x _ (hh.ext hb1) hv1 x0 x1 (by omega)).mono ?_; rintro e w2 ⟨va, rfl, hA, hb2⟩
  have B2 := hid (ext_trans hb1 hb2)
  have hA := hA.bs
  clear hb1 hb2 hv1
  go_wp2_with (refine wpList_to_bytes rfl _ rfl p rfl ?_; intro v3 w3 hv3 hb3)
  refine (low64_any _ p u _ ((hh.ext B2.out).ext hb3) hv3 u0 u1 (by omega)).mono ?_; rintro e w4 ⟨vb, rfl, hB, hb4⟩
  have B4 := hid (ext_trans hb3 hb4)
  have hB := hB.bs
  clear hb3 hb4 hv3
  go_wp2_with (refine wpList_to_bytes rfl _ rfl p rfl ?_; intro v5 w5 hv5 hb5)
  refine (high64_any _ p u _ (((hh.ext B2.out).ext B4.out).ext hb5) hv5 u0 u1 (by omega)).mono ?_; rintro e w6 ⟨vc, rfl, hC, hb6⟩
  have B6 := hid (ext_trans hb5 hb6)
  have hC := hC.bs
  clear hb5 hb6 hv5
  obtain ⟨A, cA, rfl, lA, kA, qA⟩ := hA.both2 (by rw [lowB_length]; omega)
  obtain ⟨Bp, cB, rfl, lB, kB, qB⟩ := hB.both2 (by rw [lowB_length]; omega)
  obtain ⟨C, cC, rfl, lC, kC, qC⟩ := hC.both2 (by rw [highB_length]; omega)
  have BW := hid (ext_trans (ext_trans B2.out B4.out) B6.out)
  have HH := hid (hh.ext BW.out)
  have KA := hid (((kA.ext B4.out).ext B6.out).ext (Below.refl _ _))
  have QA := hid ((qA.ext B4.out).ext B6.out)
  have KB := hid (kB.ext B6.out)
  have QB := hid (qB.ext B6.out)
  have KC := hid kC
  have QC := hid qC
  clear kA kB kC qA qB qC hA hB hC
  have la := lowB_length x 4
  have lb := lowB_length u 8
  have lc := highB_length u 8
  have va4 := valL_low x 4 x0 (by omega)
  have vb8 := valL_low u 8 u0 (by omega)
  have vc8 := valH_high u 8 u0 (by omega)
  obtain ⟨RA, hRA⟩ : ∃ R, lowB x 4 = R := ⟨_, rfl⟩
  obtain ⟨RB, hRB⟩ : ∃ R, lowB u 8 = R := ⟨_, rfl⟩
  obtain ⟨RC, hRC⟩ : ∃ R, highB u 8 = R := ⟨_, rfl⟩
  rw [hRA] at la va4 lA KA QA ⊢
  rw [hRB] at lb vb8 lB KB QB ⊢
  rw [hRC] at lc vc8 lC KC QC ⊢
  rw [la] at lA KA QA ⊢
  rw [lb] at lB KB QB ⊢
  rw [lc] at lC KC QC ⊢
  have HRA := hid hRA
  have HRB := hid hRB
  have HRC := hid hRC
  have LA := hid la
  have LB := hid lb
  have LC := hid lc
  have VA := hid va4
  have VB := hid vb8
  have VC := hid vc8
  have HX := hid hx
  have ma : RA.length ≤ 4 := by omega
  have mb : RB.length ≤ 8 := by omega
  have mc : RC.length ≤ 8 := by omega
  clear hRA hRB hRC la lb lc va4 vb8 vc8 hx
  have ea : (p ++ RA == p ++ RA) = true := by simp
  have eb : (p ++ RB == p ++ RB) = true := by simp
  have ec : (p ++ RC == p ++ RC) = true := by simp
  have hxw2 : IntKind.u64.wrap x = x := by rw [IntKind.wrap_u64]; omega
  generalize hpa : p.length + 4 = pa at lA KA ⊢
  have HPA := hid hpa.symm
  clear hpa
  have sa : ¬ (9223372036854775807 < p.length + RA.length) := by omega
  have sb : ¬ (9223372036854775807 < p.length + RB.length) := by omega
  have sc : ¬ (9223372036854775807 < p.length + RC.length) := by omega
  go_upto_region 3 with fail
  go_cut [51] (fun c wx => c = .bool false ∧ Below w6.heap.size w6 wx)
  case first =>
    have a0 := KA.out.here
    have ad := KA.out w6.drew (ext_drew _)
    have b0 := KB.out.here
    have bd := KB.out w6.drew (ext_drew _)
    have c0 := KC.out.here
    have cd := KC.out w6.drew (ext_drew _)
    clear a0 ad b0 bd c0 cd
    have KK := hid (fun (x : World) (h : Below w6.heap.size w6 x) => (⟨KA.out x h, KB.out x h, KC.out x h, h⟩ : _ ∧ _ ∧ _ ∧ _))
    go_region_held3 (fun u => (convert 34 9 (.slice A pa cA)).run Tryd.prog u = .ok (Sv (p ++ RA)) u ∧ (convert 34 9 (.slice Bp (p.length + 8) cB)).run Tryd.prog u = .ok (Sv (p ++ RB)) u ∧ (convert 34 9 (.slice C (p.length + 8) cC)).run Tryd.prog u = .ok (Sv (p ++ RC)) u ∧ Below w6.heap.size w6 u)
      ((go_split_ands; exact KK.out _ (by first | exact Below.refl _ _ | assumption | exact ext_drew _ | exact ext_drew2 (by assumption) | exact ext_trans (by assumption) (by assumption))))
      (first
        | (go_at_call 29; ((with_reducible refine (rlow4_at x RA _ HRA.out x0 x1).mono ?_); rintro e wn ⟨rfl, hb⟩))
        | (go_at_call 29; ((with_reducible refine (rlow8_at u RB _ HRB.out u0 u1).mono ?_); rintro e wn ⟨rfl, hb⟩))
        | (go_at_call 30; ((with_reducible refine (rhigh8_at u RC _ HRC.out u0 u1).mono ?_); rintro e wn ⟨rfl, hb⟩)))
    all_goals (go_wp2_with fail; go_meet; go_split_ands; exact ⟨rfl, by assumption⟩)
  case rest =>
    obtain ⟨rfl, hbw⟩ := hcut
    have HBW := hid hbw
    clear hbw
    go_wp2_with fail
    have slA := fun u => run_slice_tail A p.length 4 pa cA HPA.out (by omega) lA u
    have slB := fun u => run_slice_tail Bp p.length 8 (p.length + 8) cB rfl (by omega) lB u
    have slC := fun u => run_slice_tail C p.length 8 (p.length + 8) cC rfl (by omega) lC u
    have slA2 := fun u => run_sliceAt_tail A p.length 4 pa cA HPA.out (by omega) lA u
    have slB2 := fun u => run_sliceAt_tail Bp p.length 8 (p.length + 8) cB rfl (by omega) lB u
    have slC2 := fun u => run_sliceAt_tail C p.length 8 (p.length + 8) cC rfl (by omega) lC u
    have q0 : p.length ≤ pa := by have := HPA.out; omega
    have QA2 := hid (QA.out.ext HBW.out)
    have QB2 := hid (QB.out.ext HBW.out)
    have QC2 := hid (QC.out.ext HBW.out)
    have KK := hid (fun (x : World) (h : Below wc.heap.size wc x) => (⟨QA2.out x h, QB2.out x h, QC2.out x h, h⟩ : _ ∧ _ ∧ _ ∧ _))
    generalize hA4 : A.map (·.add p.length) = A4 at slA slA2 KK
    generalize hB4 : Bp.map (·.add p.length) = B4' at slB slB2 KK
    generalize hC4 : C.map (·.add p.length) = C4 at slC slC2 KK
    clear hA4 hB4 hC4
    generalize cA - p.length = dA at slA slA2 KK
    generalize cB - p.length = dB at slB slB2 KK
    generalize cC - p.length = dC at slC slC2 KK
    go_upto_region 5 with fail
    go_cut [9, 10, 11] (fun s9 s10 s11 wx => ∃ b1 b2 b3, s9 = ptr b1 ∧ s10 = ptr b2 ∧ s11 = ptr b3 ∧ CurAt wx b1 (Cu.start RA) ∧ CurAt wx b2 (Cu.start RB) ∧ CurAt wx b3 (Cu.start RC) ∧ b1 ≠ b2 ∧ b1 ≠ b3 ∧ b2 ≠ b3 ∧
      wc.heap.size ≤ b1 ∧ wc.heap.size ≤ b2 ∧ wc.heap.size ≤ b3 ∧ Below wc.heap.size wc wx)
    case first =>
      go_region_held3 (fun u => (convert 34 9 (.slice A4 4 dA)).run Tryd.prog u = .ok (Sv RA) u ∧ (convert 34 9 (.slice B4' 8 dB)).run Tryd.prog u = .ok (Sv RB) u ∧ (convert 34 9 (.slice C4 8 dC)).run Tryd.prog u = .ok (Sv RC) u ∧ Below wc.heap.size wc u)
        ((go_split_ands; exact KK.out _ (by first | exact Below.refl _ _ | assumption | exact ext_drew _ | exact ext_drew2 (by assumption) | exact ext_trans (by assumption) (by assumption))))
        (first
          | (go_at_call 17; ((with_reducible refine (new_any RA _ (by omega)).mono ?_); rintro e wn ⟨b1, rfl, hb1, hc1, hw1⟩))
          | (go_at_call 17; ((with_reducible refine (new_any RB _ (by omega)).mono ?_); rintro e wn ⟨b2, rfl, hb2, hc2, hw2⟩))
          | (go_at_call 17; ((with_reducible refine (new_any RC _ (by omega)).mono ?_); rintro e wn ⟨b3, rfl, hb3, hc3, hw3⟩)))
      have z1 := hc1.lt
      have z2 := hc2.lt
      have s2 := hw2.size
      have s3 := hw3.size
      have s1 := (ext_drew2 hw1).size
      have hb1' : wc.heap.size ≤ b1 := hb1
      go_wp2_with fail
      go_meet
      exact ⟨b1, b2, b3, rfl, rfl, rfl, (hc1.ext hw2).ext hw3, hc2.ext hw3, hc3, by omega, by omega, by omega, by omega, by omega, by omega, ext_trans (ext_trans (ext_drew2 hw1) hw2) hw3⟩
    case rest =>
      obtain ⟨b1, b2, b3, rfl, rfl, rfl, hc1, hc2, hc3, n12, n13, n23, g1, g2, g3, hbw⟩ := hcut
      obtain ⟨t1, v1, p1⟩ := start_read RA 4 LA.out
      obtain ⟨t2, v2, p2⟩ := start_read RB 8 LB.out
      obtain ⟨t3, v3, p3⟩ := start_read RC 8 LC.out
      have T1 := hid (show (Cu.start RA).text 4 = RA from t1)
      have T2 := hid (show (Cu.start RB).text 8 = RB from t2)
      have T3 := hid (show (Cu.start RC).text 8 = RC from t3)
      have V1 := hid (show (Cu.start RA).take 4 = Cu.past RA from v1)
      have V2 := hid (show (Cu.start RB).take 8 = Cu.past RB from v2)
      have V3 := hid (show (Cu.start RC).take 8 = Cu.past RC from v3)
      have P1 := hid p1
      have P2 := hid p2
      have P3 := hid p3
      have HB := hid (ext_trans HBW.out hbw)
      have HHH := hid (HH.out.ext HB.out)
      have e1 : (x == x) = true := by simp
      have e2 : (u == u) = true := by simp
      have s6 := HBW.out.size
      clear t1 t2 t3 v1 v2 v3 p1 p2 p3 hbw slA slB slC slA2 slB2 slC2 KK
      go_wp2_with fail
      refine (readlow32_any b1 _ _ hc1 (Cu.start_fit (by omega))).mono ?_; rintro e y1 ⟨rfl, hc1, hy1⟩
      rw [T1.out, VA.out]
      rw [V1.out] at hc1
      have hc2 := hc2.other hy1 (Ne.symm n12)
      have hc3 := hc3.other hy1 (Ne.symm n13)
      go_wp2_with fail
      refine (readlow64_any b2 _ _ hc2 (Cu.start_fit (by omega))).mono ?_; rintro e y2 ⟨rfl, hc2, hy2⟩
      rw [T2.out, VB.out]
      rw [V2.out] at hc2
      have hc1 := hc1.other hy2 n12
      have hc3 := hc3.other hy2 (Ne.symm n23)
      go_wp2_with fail
      refine (readhigh64_any b3 _ _ hc3 (Cu.start_fit (by omega))).mono ?_; rintro e y3 ⟨rfl, hc3, hy3⟩
      rw [T3.out, VC.out]
      rw [V3.out] at hc3
      have hc1 := hc1.other hy3 n13
      have hc2 := hc2.other hy3 n23
      have HY := hid (below_only (below_only (below_only HB.out hy1 HB.out.size (by omega)) hy2 (below_only HB.out hy1 HB.out.size (by omega)).size (by omega)) hy3 (below_only (below_only HB.out hy1 HB.out.size (by omega)) hy2 (below_only HB.out hy1 HB.out.size (by omega)).size (by omega)).size (by omega))
      go_wp2_with fail
      refine (end_any b1 _ _ hc1 (end_fit RA (by omega))).mono ?_; rintro e y4 ⟨rfl, m1, rfl⟩
      rw [P1.out]
      go_wp2_with fail
      refine (end_any b2 _ _ (hc2.drewN _) (end_fit RB (by omega))).mono ?_; rintro e y4 ⟨rfl, m2, rfl⟩
      rw [P2.out]
      go_wp2_with fail
      refine (end_any b3 _ _ (hc3.drewN _) (end_fit RC (by omega))).mono ?_; rintro e y4 ⟨rfl, m3, rfl⟩
      rw [P3.out]
      go_wp2_with fail
      refine (wworks_any _ ((hh.ext BW.out).ext (below_drewN HY.out _))).mono ?_; rintro e y5 ⟨rfl, hw5⟩
      go_wp2_with fail
      go_ret
      exact ⟨rfl, ext_trans BW.out (ext_trans (below_drewN HY.out _) hw5)⟩
end Go.Proofs.YtlibnfkehcpdkaaDoor
