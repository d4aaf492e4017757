/-
  Walks of package ptag.
-/
import Derived.Test.YtdjbgojdkaipfaaDoorVarRead
import Derived.Test.YtdjbgojdkaipfaaDoorSt
import Derived.Test.YtdjbgojdkaipfaaDoorStill
namespace Go.Proofs.YtdjbgojdkaipfaaDoor
open Go.RowKit

structure Rd (c c' : Cu) (K : Int) (n : Nat) : Prop where
  s : c'.s = c.s
  en : c'.en = c.en
  fit : c'.fit
  bad : c.code ≠ 0 → c' = c
  good : c.code = 0 → c'.code = K ∧ (K = 0 → c' = { c with pos := c.pos + n })
theorem Rd.refl_bad {c : Cu} (h : c.code ≠ 0) (hf : c.fit) (K : Int) (n : Nat) : Rd c c K n := ⟨rfl, rfl, hf, fun _ => rfl, fun h0 => absurd h0 h⟩
def mayT (n wi : Int) : Bool := decide (1 ≤ n ∧ n ≤ 536870911) && (wi == 0 || wi == 1 || wi == 2 || wi == 5)
/-- A tag: the code, the bytes gone past, the number, the wire type. -/
def tagR (a : List UInt8) : Int × Nat × Int × Int :=
  if vcode a = 0 then (if mayT (vnum a / 8) (vnum a % 8) = true then (0, vlen 10 a, vnum a / 8, vnum a % 8) else (14, 0, 0, 0)) else (vcode a, 0, 0, 0)
def Tv (n wi : Int) : Value := .agg #[.int .i64 n, .int .i64 wi]
/-- The variable 'none' of the package. -/
def NoneIs (w : World) : Prop := w.cell? ⟨0, 0, none⟩ = some (.int .i64 0) ∧ w.cell? ⟨0, 1, none⟩ = some (.int .i64 0)
theorem NoneIs.lt {w : World} (h : NoneIs w) : 0 < w.heap.size := World.block_lt_of_cell? w _ h.1
theorem NoneIs.ext {w w' : World} (h : NoneIs w) (hb : Below w.heap.size w w') : NoneIs w' :=
  ⟨(hb.cell (p := ⟨_, 0, none⟩) h.lt).trans h.1, (hb.cell (p := ⟨_, 1, none⟩) h.lt).trans h.2⟩
theorem NoneIs.below {w0 w w' : World} (h0 : NoneIs w0) (h : Below w0.heap.size w0 w') : NoneIs w' := h0.ext h
theorem NoneIs.grown {w w' : World} {b : Nat} {c : Cu} (h : NoneIs w) (hc : CurAt w b c) (hg : w.grownBy w' (some b)) : NoneIs w' := by
  have hne : b ≠ 0 := by
    intro e
    have h1 := hc.cell 0
    have h2 := h.1
    rw [e] at h1
    rw [h1] at h2
    cases h2
  have k : ∀ p : Addr, p.block = 0 → w'.cell? p = w.cell? p := fun p hp => World.cell?_of_block (hg.block p.block (by rw [hp]; exact h.lt) (by rw [hp]; intro e; injection e with e; exact hne e.symm))
  exact ⟨(k _ rfl).trans h.1, (k _ rfl).trans h.2⟩

set_option maxRecDepth 100000 in
theorem may_any (n wi : Int) (w : World) :
    Calls Tryd.prog 14 #[Tv n wi] w fun e w' => e = .returned (.bool (mayT n wi)) ∧ Below w.heap.size w w' := by
  by_cases h1 : n < 1
  · have HM := hid (show mayT n wi = false by simp [mayT]; omega)
    unfold Tv
    go_enter Tryd.func14, Tryd.ntmps14
    go_wp2
    go_ret
    exact ⟨by rw [HM.out]; rfl, ext_alloc _ _⟩
  by_cases h2 : 536870911 < n
  · have HM := hid (show mayT n wi = false by simp [mayT]; omega)
    unfold Tv
    go_enter Tryd.func14, Tryd.ntmps14
    go_wp2
    go_ret
    exact ⟨by rw [HM.out]; rfl, ext_alloc _ _⟩
  have hd : decide (1 ≤ n ∧ n ≤ 536870911) = true := decide_eq_true ⟨by omega, by omega⟩
  cases e0 : (wi == 0) with
  | true =>
    have HM := hid (show mayT n wi = true by simp [mayT, hd, e0])
    clear hd
    unfold Tv
    go_enter Tryd.func14, Tryd.ntmps14
    go_wp2
    go_ret
    exact ⟨by rw [HM.out]; rfl, ext_alloc _ _⟩
  | false =>
    cases e1 : (wi == 1) with
    | true =>
      have HM := hid (show mayT n wi = true by simp [mayT, hd, e1])
      clear hd
      unfold Tv
      go_enter Tryd.func14, Tryd.ntmps14
      go_wp2
      go_ret
      exact ⟨by rw [HM.out]; rfl, ext_alloc _ _⟩
    | false =>
      cases e2 : (wi == 2) with
      | true =>
        have HM := hid (show mayT n wi = true by simp [mayT, hd, e2])
        clear hd
        unfold Tv
        go_enter Tryd.func14, Tryd.ntmps14
        go_wp2
        go_ret
        exact ⟨by rw [HM.out]; rfl, ext_alloc _ _⟩
      | false =>
        have HM := hid (show mayT n wi = (wi == 5) by simp [mayT, hd, e0, e1, e2])
        cases e5 : (wi == 5) with
        | true =>
          clear hd
          unfold Tv
          go_enter Tryd.func14, Tryd.ntmps14
          go_wp2
          go_ret
          exact ⟨by rw [HM.out, e5]; rfl, ext_alloc _ _⟩
        | false =>
          clear hd
          unfold Tv
          go_enter Tryd.func14, Tryd.ntmps14
          go_wp2
          go_ret
          exact ⟨by rw [HM.out, e5]; rfl, ext_alloc _ _⟩
def ofT (u : Int) : Value := if u < 4294967296 then Tv (u / 8) (u % 8) else Tv 0 0
set_option maxRecDepth 100000 in
set_option maxHeartbeats 1000000 in
theorem of_any (u : Int) (w : World) (hN : NoneIs w) (h0 : 0 ≤ u) (h1 : u ≤ 18446744073709551615) :
    Calls Tryd.prog 34 #[.int .u64 u] w fun e w' => e = .returned (ofT u) ∧ Below w.heap.size w w' := by
  have g0 := hN.1
  have g1 := hN.2
  have gl := hN.lt
  by_cases hb : u < 4294967296
  · have HO := hid (show ofT u = Tv (u / 8) (u % 8) from if_pos hb)
    have hand : bits .and .u64 u 7 = u % 8 := and_mask u 3 h0 (by omega) (by omega)
    have hz : (u / 4294967296 != 0) = false := by rw [bne_eq_false_iff_eq]; omega
    have hw : wrap64 (u % 8) = u % 8 := by unfold wrap64; omega
    go_enter Tryd.func34, Tryd.ntmps34
    go_wp2
    exact bodyPost_ret (v := .agg #[.int .i64 (u / 8), .int .i64 (u % 8)]) (by simp only [results, Tryd.results34]; go_simp) rfl ⟨by rw [HO.out]; rfl, ext_alloc _ _⟩
  · have HO := hid (show ofT u = Tv 0 0 from if_neg hb)
    have hz : (u / 4294967296 != 0) = true := by rw [bne_iff_ne]; omega
    go_enter Tryd.func34, Tryd.ntmps34
    go_wp2
    exact bodyPost_ret (v := .agg #[.int .i64 0, .int .i64 0]) (by simp only [results, Tryd.results34]; go_simp) rfl ⟨by rw [HO.out]; rfl, ext_alloc _ _⟩
def TPost (b : Nat) (c : Cu) (w : World) (e : Ending) (w' : World) : Prop :=
  ∃ c' n wi, e = .returned (Tv n wi) ∧ Rd c c' (tagR c.ahead).1 (tagR c.ahead).2.1 ∧ (c.code ≠ 0 → n = 0 ∧ wi = 0) ∧
    (c.code = 0 → n = (tagR c.ahead).2.2.1 ∧ wi = (tagR c.ahead).2.2.2) ∧ CurAt w' b c' ∧ w.grownBy w' (some b)
theorem TPost.mk_bad {b : Nat} {c : Cu} {w w' : World} (h : c.code ≠ 0) (hf : c.fit) (hc : CurAt w' b c) (hg : w.grownBy w' (some b)) : TPost b c w (.returned (Tv 0 0)) w' :=
  ⟨c, 0, 0, rfl, Rd.refl_bad h hf _ _, fun _ => ⟨rfl, rfl⟩, fun h0 => absurd h0 h, hc, hg⟩
theorem TPost.mk_ok {b : Nat} {c c' : Cu} {w w' : World} {K : Int} {m : Nat} {n wi : Int} (h : c.code = 0) (hr : tagR c.ahead = (K, m, n, wi)) (hs : c'.s = c.s) (he : c'.en = c.en) (hf : c'.fit) (hk : c'.code = K)
    (hp : K = 0 → c' = { c with pos := c.pos + m }) (hc : CurAt w' b c') (hg : w.grownBy w' (some b)) : TPost b c w (.returned (Tv n wi)) w' :=
  ⟨c', n, wi, rfl, ⟨hs, he, hf, fun h0 => absurd h h0, fun _ => ⟨by rw [hr]; exact hk, fun h0 => by rw [hr] at h0 ⊢; exact hp h0⟩⟩, fun h0 => absurd h h0, fun _ => by rw [hr]; exact ⟨rfl, rfl⟩, hc, hg⟩
theorem two_far {w : World} {b r : Nat} {c : Cu} (h : CurAt w b c) (hne : b ≠ r) (u v : Value) : CurAt ((w.setCell ⟨r, 0, none⟩ u).setCell ⟨r, 1, none⟩ v) b c :=
  Blk.far (Blk.far h (by exact hne) _) (by exact hne) _
theorem two_grow {w w' : World} {b r : Nat} (h : w.grownBy w' (some b)) (hr : w.heap.size ≤ r) (u v : Value) : w.grownBy ((w'.setCell ⟨r, 0, none⟩ u).setCell ⟨r, 1, none⟩ v) (some b) :=
  only_setCell (only_setCell h (Or.inr hr) _) (Or.inr hr) _
set_option maxRecDepth 100000 in
set_option maxHeartbeats 1000000 in
theorem tag_any (b : Nat) (c : Cu) (w : World) (hN : NoneIs w) (hc : CurAt w b c) (hf : c.fit) :
    Calls Tryd.prog 9 #[ptr b] w fun e w' => TPost b c w e w' := by
  have hc1 : CurAt (w.alloc (.cells #[.int .i64 0, .int .i64 0] 30)) b c := Blk.alloc hc _
  have HN := hid hN
  have HC1 := hid hc1
  have hlt := hc.lt
  clear hN hc hc1
  by_cases hc0 : c.code = 0
  case neg =>
    have hne : (c.code != 0) = true := by simpa using hc0
    have HC := hid hc0
    clear hc0
    go_enter Tryd.func9, Tryd.ntmps9
    go_wp2_with fail
    refine (vread_any b c _ HC1.out hf).mono ?_; rintro e w1 ⟨c2, u, rfl, hv, hc2, hg2⟩
    obtain ⟨rfl, rfl⟩ := hv.bad HC.out
    have hT1 : Blk w1 w.heap.size 30 #[.int .i64 0, .int .i64 0] := Blk.grown (Blk.new w _ _) hg2 (by intro e; injection e with e; omega)
    have hN1 := NoneIs.grown (HN.out.ext (ext_alloc w _)) HC1.out hg2
    obtain ⟨p0, p1, q0, q1⟩ := blk2 hT1
    have g0 := hN1.1
    have g1 := hN1.2
    have gl := hN1.lt
    have hO := only_trans (only_of_below (ext_alloc w _) _) hg2
    clear hv hg2 hN1 hT1
    go_wp2_with fail
    refine (err_any b _ _ hc2).mono ?_; rintro e w3 ⟨rfl, rfl⟩
    go_wp2_with fail
    exact bodyPost_ret (v := .agg #[.int .i64 0, .int .i64 0]) (by simp only [results, Tryd.results9]; go_simp) rfl
      (TPost.mk_bad HC.out hf (two_far hc2 (Nat.ne_of_lt hlt) _ _) (two_grow hO (Nat.le_refl _) _ _))
  by_cases hv0 : vcode c.ahead = 0
  case neg =>
    have HR := hid (show tagR c.ahead = (vcode c.ahead, 0, 0, 0) by rw [tagR, if_neg hv0])
    have HV := hid hv0
    have HC := hid hc0
    clear hv0 hc0
    go_enter Tryd.func9, Tryd.ntmps9
    go_wp2_with fail
    refine (vread_any b c _ HC1.out hf).mono ?_; rintro e w1 ⟨c2, u, rfl, hv, hc2, hg2⟩
    obtain ⟨e1, e2, e3⟩ := hv.good HC.out
    have hf3 := hv.fit
    have hne : (c2.code != 0) = true := by rw [e1]; simpa using HV.out
    have E1 := hid e1
    have HS := hid hv.s
    have HE := hid hv.en
    have hT1 : Blk w1 w.heap.size 30 #[.int .i64 0, .int .i64 0] := Blk.grown (Blk.new w _ _) hg2 (by intro e; injection e with e; omega)
    have hN1 := NoneIs.grown (HN.out.ext (ext_alloc w _)) HC1.out hg2
    obtain ⟨p0, p1, q0, q1⟩ := blk2 hT1
    have g0 := hN1.1
    have g1 := hN1.2
    have gl := hN1.lt
    have hO := only_trans (only_of_below (ext_alloc w _) _) hg2
    clear hv hg2 hN1 hT1 e1 e2 e3
    go_wp2_with fail
    refine (err_any b _ _ hc2).mono ?_; rintro e w3 ⟨rfl, rfl⟩
    go_wp2_with fail
    exact bodyPost_ret (v := .agg #[.int .i64 0, .int .i64 0]) (by simp only [results, Tryd.results9]; go_simp) rfl
      (TPost.mk_ok (c' := c2) HC.out HR.out HS.out HE.out hf3 E1.out (fun h => absurd h HV.out) (two_far hc2 (Nat.ne_of_lt hlt) _ _) (two_grow hO (Nat.le_refl _) _ _))
  obtain ⟨u0, u1⟩ := vnum_bd c.ahead
  have HV := hid hv0
  have HC := hid hc0
  have HR0 := hid (show ∀ r, (tagR c.ahead = r ↔ (if mayT (vnum c.ahead / 8) (vnum c.ahead % 8) = true then (0, vlen 10 c.ahead, vnum c.ahead / 8, vnum c.ahead % 8) else (14, 0, 0, 0)) = r) from fun r => by rw [tagR, if_pos hv0])
  generalize hU : vnum c.ahead = U at u0 u1 HR0
  have HU := hid hU
  have hcode : (c.code != 0) = false := by rw [hc0]; rfl
  clear hv0 hc0 hU
  by_cases hm : mayT (U / 8) (U % 8) = true
  · have HR := hid ((HR0.out _).2 (if_pos hm))
    obtain ⟨k0, k1⟩ : 1 ≤ U / 8 ∧ U / 8 ≤ 536870911 := by simp [mayT] at hm; omega
    have HM := hid hm
    have HT := hid (show ofT U = Tv (U / 8) (U % 8) from if_pos (by omega))
    clear HR0 hm
    go_enter Tryd.func9, Tryd.ntmps9
    go_wp2_with fail
    refine (vread_any b c _ HC1.out hf).mono ?_; rintro e w1 ⟨c2, u, rfl, hv, hc2, hg2⟩
    obtain ⟨e1, e2, e3⟩ := hv.good HC.out
    have hf3 := hv.fit
    obtain rfl := e3 HV.out
    rw [e2, HU.out]
    have hT1 : Blk w1 w.heap.size 30 #[.int .i64 0, .int .i64 0] := Blk.grown (Blk.new w _ _) hg2 (by intro e; injection e with e; omega)
    have hN1 := NoneIs.grown (HN.out.ext (ext_alloc w _)) HC1.out hg2
    have hO := only_trans (only_of_below (ext_alloc w _) _) hg2
    clear hv hg2 e1 e2 e3
    go_wp2_with fail
    refine (err_any b _ _ hc2).mono ?_; rintro e w3 ⟨rfl, rfl⟩
    go_wp2_with fail
    refine (of_any U _ hN1 u0 u1).mono ?_; rintro e w3 ⟨rfl, hw3⟩
    rw [HT.out]
    unfold Tv
    have hT3 := Blk.below hT1 hw3 (Blk.lt hT1)
    have hN3 := hN1.ext hw3
    have hc3 := CurAt.ext hc2 hw3
    have hO3 := only_trans hO (only_of_below hw3 _)
    obtain ⟨p0, p1, q0, q1⟩ := blk2 hT3
    have g0 := hN3.1
    have g1 := hN3.2
    have gl := hN3.lt
    clear hT1 hN1 hO hw3 hc2
    go_wp2_with fail
    refine (may_any (U / 8) (U % 8) _).mono ?_; rintro e w5 ⟨rfl, hw5⟩
    rw [HM.out]
    have hD5 := Blk.below (Blk.new w3 30 #[.int .i64 (U / 8), .int .i64 (U % 8)]) hw5 (by simp)
    have hb5 := ext_trans (ext_alloc w3 _) hw5
    have hT5 := Blk.below hT3 hb5 (Blk.lt hT3)
    have hc5 := CurAt.ext hc3 hb5
    have hO5 := only_trans hO3 (only_of_below hb5 _)
    have hlt3 : w.heap.size < w3.heap.size := Blk.lt hT3
    clear p0 p1 q0 q1 g0 g1 gl hw5 hb5 hT3 hN3 hO3 hc3
    obtain ⟨p0, p1, q0, q1⟩ := blk2 hT5
    obtain ⟨d0, d1, f0, f1⟩ := blk2 hD5
    go_wp2_with fail
    exact bodyPost_ret (v := .agg #[.int .i64 (U / 8), .int .i64 (U % 8)]) (by simp only [results, Tryd.results9]; go_simp) rfl
      (TPost.mk_ok (c' := { c with pos := c.pos + vlen 10 c.ahead }) HC.out HR.out rfl rfl hf3 HC.out (fun _ => rfl) (two_far hc5 (Nat.ne_of_lt hlt) _ _) (two_grow hO5 (Nat.le_refl _) _ _))
  have HR := hid ((HR0.out _).2 (if_neg hm))
  have HM := hid (show mayT (U / 8) (U % 8) = false by simpa using hm)
  clear HR0 hm
  by_cases hbig : U < 4294967296
  · by_cases hz : U = 0
    · have HT := hid (show ofT U = Tv 0 0 by rw [hz]; rfl)
      clear hbig hz
      go_enter Tryd.func9, Tryd.ntmps9
      go_wp2_with fail
      refine (vread_any b c _ HC1.out hf).mono ?_; rintro e w1 ⟨c2, u, rfl, hv, hc2, hg2⟩
      obtain ⟨e1, e2, e3⟩ := hv.good HC.out
      have hf3 := hv.fit
      obtain rfl := e3 HV.out
      rw [e2, HU.out]
      have hT1 : Blk w1 w.heap.size 30 #[.int .i64 0, .int .i64 0] := Blk.grown (Blk.new w _ _) hg2 (by intro e; injection e with e; omega)
      have hN1 := NoneIs.grown (HN.out.ext (ext_alloc w _)) HC1.out hg2
      have hO := only_trans (only_of_below (ext_alloc w _) _) hg2
      clear hv hg2 e1 e2 e3
      go_wp2_with fail
      refine (err_any b _ _ hc2).mono ?_; rintro e w3 ⟨rfl, rfl⟩
      go_wp2_with fail
      refine (of_any U _ hN1 u0 u1).mono ?_; rintro e w3 ⟨rfl, hw3⟩
      rw [HT.out]
      unfold Tv
      have hT3 := Blk.below hT1 hw3 (Blk.lt hT1)
      have hN3 := hN1.ext hw3
      have hc3 := CurAt.ext hc2 hw3
      have hO3 := only_trans hO (only_of_below hw3 _)
      obtain ⟨p0, p1, q0, q1⟩ := blk2 hT3
      have g0 := hN3.1
      have g1 := hN3.2
      have gl := hN3.lt
      clear hT1 hN1 hO hw3 hc2
      go_wp2_with fail
      have hb5 := ext_alloc w3 (.cells #[.int .i64 0, .int .i64 0] 30)
      have hT5 := Blk.below hT3 hb5 (Blk.lt hT3)
      have hN5 := hN3.ext hb5
      have hc5 := CurAt.ext hc3 hb5
      have hO5 := only_trans hO3 (only_of_below hb5 _)
      have hlt3 : w.heap.size < w3.heap.size := Blk.lt hT3
      clear p0 p1 q0 q1 g0 g1 gl hb5 hT3 hN3 hO3 hc3
      refine (fail_any b _ 14 _ hc5).mono ?_; rintro e w6 ⟨rfl, hc6, hg6⟩
      rw [show ({ c with pos := c.pos + vlen 10 c.ahead } : Cu).fail 14 = { c with pos := c.pos + vlen 10 c.ahead, code := 14 } by simp [Cu.fail, HC.out]] at hc6
      have hT6 := Blk.grown hT5 hg6 (by intro e; injection e with e; omega)
      have hN6 := NoneIs.grown hN5 hc5 hg6
      have hO6 := only_trans hO5 hg6
      clear hg6 hT5 hN5 hO5 hc5
      obtain ⟨p0, p1, q0, q1⟩ := blk2 hT6
      have g0 := hN6.1
      have g1 := hN6.2
      have gl := hN6.lt
      go_wp2_with fail
      exact bodyPost_ret (v := .agg #[.int .i64 0, .int .i64 0]) (by simp only [results, Tryd.results9]; go_simp) rfl
        (TPost.mk_ok (c' := { c with pos := c.pos + vlen 10 c.ahead, code := 14 }) HC.out HR.out rfl rfl ⟨hf3.le1, hf3.le2, hf3.le3⟩ rfl (fun h => absurd h (by decide)) (two_far hc6 (Nat.ne_of_lt hlt) _ _) (two_grow hO6 (Nat.le_refl _) _ _))
    · have HT := hid (show ofT U = Tv (U / 8) (U % 8) from if_pos hbig)
      have hnz : (U / 8 == 0 && U % 8 == 0) = false := by simp; omega
      by_cases h8 : U / 8 = 0
      · have h80 : (U % 8 == 0) = false := by simp; omega
        have h81 : (U / 8 == 0) = true := by simpa using h8
        clear hbig hz h8
        go_enter Tryd.func9, Tryd.ntmps9
        go_wp2_with fail
        refine (vread_any b c _ HC1.out hf).mono ?_; rintro e w1 ⟨c2, u, rfl, hv, hc2, hg2⟩
        obtain ⟨e1, e2, e3⟩ := hv.good HC.out
        have hf3 := hv.fit
        obtain rfl := e3 HV.out
        rw [e2, HU.out]
        have hT1 : Blk w1 w.heap.size 30 #[.int .i64 0, .int .i64 0] := Blk.grown (Blk.new w _ _) hg2 (by intro e; injection e with e; omega)
        have hN1 := NoneIs.grown (HN.out.ext (ext_alloc w _)) HC1.out hg2
        have hO := only_trans (only_of_below (ext_alloc w _) _) hg2
        clear hv hg2 e1 e2 e3
        go_wp2_with fail
        refine (err_any b _ _ hc2).mono ?_; rintro e w3 ⟨rfl, rfl⟩
        go_wp2_with fail
        refine (of_any U _ hN1 u0 u1).mono ?_; rintro e w3 ⟨rfl, hw3⟩
        rw [HT.out]
        unfold Tv
        have hT3 := Blk.below hT1 hw3 (Blk.lt hT1)
        have hN3 := hN1.ext hw3
        have hc3 := CurAt.ext hc2 hw3
        have hO3 := only_trans hO (only_of_below hw3 _)
        obtain ⟨p0, p1, q0, q1⟩ := blk2 hT3
        have g0 := hN3.1
        have g1 := hN3.2
        have gl := hN3.lt
        clear hT1 hN1 hO hw3 hc2
        go_wp2_with fail
        refine (may_any (U / 8) (U % 8) _).mono ?_; rintro e w5 ⟨rfl, hw5⟩
        rw [HM.out]
        have hb5 := ext_trans (ext_alloc w3 _) hw5
        have hT5 := Blk.below hT3 hb5 (Blk.lt hT3)
        have hN5 := hN3.ext hb5
        have hc5 := CurAt.ext hc3 hb5
        have hO5 := only_trans hO3 (only_of_below hb5 _)
        have hlt3 : w.heap.size < w3.heap.size := Blk.lt hT3
        clear p0 p1 q0 q1 g0 g1 gl hw5 hb5 hT3 hN3 hO3 hc3
        go_wp2_with fail
        refine (fail_any b _ 14 _ hc5).mono ?_; rintro e w6 ⟨rfl, hc6, hg6⟩
        rw [show ({ c with pos := c.pos + vlen 10 c.ahead } : Cu).fail 14 = { c with pos := c.pos + vlen 10 c.ahead, code := 14 } by simp [Cu.fail, HC.out]] at hc6
        have hT6 := Blk.grown hT5 hg6 (by intro e; injection e with e; omega)
        have hN6 := NoneIs.grown hN5 hc5 hg6
        have hO6 := only_trans hO5 hg6
        clear hg6 hT5 hN5 hO5 hc5
        obtain ⟨p0, p1, q0, q1⟩ := blk2 hT6
        have g0 := hN6.1
        have g1 := hN6.2
        have gl := hN6.lt
        go_wp2_with fail
        exact bodyPost_ret (v := .agg #[.int .i64 0, .int .i64 0]) (by simp only [results, Tryd.results9]; go_simp) rfl
          (TPost.mk_ok (c' := { c with pos := c.pos + vlen 10 c.ahead, code := 14 }) HC.out HR.out rfl rfl ⟨hf3.le1, hf3.le2, hf3.le3⟩ rfl (fun h => absurd h (by decide)) (two_far hc6 (Nat.ne_of_lt hlt) _ _) (two_grow hO6 (Nat.le_refl _) _ _))
      · have h81 : (U / 8 == 0) = false := by simpa using h8
        clear hbig hz h8
        go_enter Tryd.func9, Tryd.ntmps9
        go_wp2_with fail
        refine (vread_any b c _ HC1.out hf).mono ?_; rintro e w1 ⟨c2, u, rfl, hv, hc2, hg2⟩
        obtain ⟨e1, e2, e3⟩ := hv.good HC.out
        have hf3 := hv.fit
        obtain rfl := e3 HV.out
        rw [e2, HU.out]
        have hT1 : Blk w1 w.heap.size 30 #[.int .i64 0, .int .i64 0] := Blk.grown (Blk.new w _ _) hg2 (by intro e; injection e with e; omega)
        have hN1 := NoneIs.grown (HN.out.ext (ext_alloc w _)) HC1.out hg2
        have hO := only_trans (only_of_below (ext_alloc w _) _) hg2
        clear hv hg2 e1 e2 e3
        go_wp2_with fail
        refine (err_any b _ _ hc2).mono ?_; rintro e w3 ⟨rfl, rfl⟩
        go_wp2_with fail
        refine (of_any U _ hN1 u0 u1).mono ?_; rintro e w3 ⟨rfl, hw3⟩
        rw [HT.out]
        unfold Tv
        have hT3 := Blk.below hT1 hw3 (Blk.lt hT1)
        have hN3 := hN1.ext hw3
        have hc3 := CurAt.ext hc2 hw3
        have hO3 := only_trans hO (only_of_below hw3 _)
        obtain ⟨p0, p1, q0, q1⟩ := blk2 hT3
        have g0 := hN3.1
        have g1 := hN3.2
        have gl := hN3.lt
        clear hT1 hN1 hO hw3 hc2
        go_wp2_with fail
        refine (may_any (U / 8) (U % 8) _).mono ?_; rintro e w5 ⟨rfl, hw5⟩
        rw [HM.out]
        have hb5 := ext_trans (ext_alloc w3 _) hw5
        have hT5 := Blk.below hT3 hb5 (Blk.lt hT3)
        have hN5 := hN3.ext hb5
        have hc5 := CurAt.ext hc3 hb5
        have hO5 := only_trans hO3 (only_of_below hb5 _)
        have hlt3 : w.heap.size < w3.heap.size := Blk.lt hT3
        clear p0 p1 q0 q1 g0 g1 gl hw5 hb5 hT3 hN3 hO3 hc3
        go_wp2_with fail
        refine (fail_any b _ 14 _ hc5).mono ?_; rintro e w6 ⟨rfl, hc6, hg6⟩
        rw [show ({ c with pos := c.pos + vlen 10 c.ahead } : Cu).fail 14 = { c with pos := c.pos + vlen 10 c.ahead, code := 14 } by simp [Cu.fail, HC.out]] at hc6
        have hT6 := Blk.grown hT5 hg6 (by intro e; injection e with e; omega)
        have hN6 := NoneIs.grown hN5 hc5 hg6
        have hO6 := only_trans hO5 hg6
        clear hg6 hT5 hN5 hO5 hc5
        obtain ⟨p0, p1, q0, q1⟩ := blk2 hT6
        have g0 := hN6.1
        have g1 := hN6.2
        have gl := hN6.lt
        go_wp2_with fail
        exact bodyPost_ret (v := .agg #[.int .i64 0, .int .i64 0]) (by simp only [results, Tryd.results9]; go_simp) rfl
          (TPost.mk_ok (c' := { c with pos := c.pos + vlen 10 c.ahead, code := 14 }) HC.out HR.out rfl rfl ⟨hf3.le1, hf3.le2, hf3.le3⟩ rfl (fun h => absurd h (by decide)) (two_far hc6 (Nat.ne_of_lt hlt) _ _) (two_grow hO6 (Nat.le_refl _) _ _))
  · have HT := hid (show ofT U = Tv 0 0 from if_neg hbig)
    clear hbig
    go_enter Tryd.func9, Tryd.ntmps9
    go_wp2_with fail
    refine (vread_any b c _ HC1.out hf).mono ?_; rintro e w1 ⟨c2, u, rfl, hv, hc2, hg2⟩
    obtain ⟨e1, e2, e3⟩ := hv.good HC.out
    have hf3 := hv.fit
    obtain rfl := e3 HV.out
    rw [e2, HU.out]
    have hT1 : Blk w1 w.heap.size 30 #[.int .i64 0, .int .i64 0] := Blk.grown (Blk.new w _ _) hg2 (by intro e; injection e with e; omega)
    have hN1 := NoneIs.grown (HN.out.ext (ext_alloc w _)) HC1.out hg2
    have hO := only_trans (only_of_below (ext_alloc w _) _) hg2
    clear hv hg2 e1 e2 e3
    go_wp2_with fail
    refine (err_any b _ _ hc2).mono ?_; rintro e w3 ⟨rfl, rfl⟩
    go_wp2_with fail
    refine (of_any U _ hN1 u0 u1).mono ?_; rintro e w3 ⟨rfl, hw3⟩
    rw [HT.out]
    unfold Tv
    have hT3 := Blk.below hT1 hw3 (Blk.lt hT1)
    have hN3 := hN1.ext hw3
    have hc3 := CurAt.ext hc2 hw3
    have hO3 := only_trans hO (only_of_below hw3 _)
    obtain ⟨p0, p1, q0, q1⟩ := blk2 hT3
    have g0 := hN3.1
    have g1 := hN3.2
    have gl := hN3.lt
    clear hT1 hN1 hO hw3 hc2
    go_wp2_with fail
    have hb5 := ext_alloc w3 (.cells #[.int .i64 0, .int .i64 0] 30)
    have hT5 := Blk.below hT3 hb5 (Blk.lt hT3)
    have hN5 := hN3.ext hb5
    have hc5 := CurAt.ext hc3 hb5
    have hO5 := only_trans hO3 (only_of_below hb5 _)
    have hlt3 : w.heap.size < w3.heap.size := Blk.lt hT3
    clear p0 p1 q0 q1 g0 g1 gl hb5 hT3 hN3 hO3 hc3
    refine (fail_any b _ 14 _ hc5).mono ?_; rintro e w6 ⟨rfl, hc6, hg6⟩
    rw [show ({ c with pos := c.pos + vlen 10 c.ahead } : Cu).fail 14 = { c with pos := c.pos + vlen 10 c.ahead, code := 14 } by simp [Cu.fail, HC.out]] at hc6
    have hT6 := Blk.grown hT5 hg6 (by intro e; injection e with e; omega)
    have hN6 := NoneIs.grown hN5 hc5 hg6
    have hO6 := only_trans hO5 hg6
    clear hg6 hT5 hN5 hO5 hc5
    obtain ⟨p0, p1, q0, q1⟩ := blk2 hT6
    have g0 := hN6.1
    have g1 := hN6.2
    have gl := hN6.lt
    go_wp2_with fail
    exact bodyPost_ret (v := .agg #[.int .i64 0, .int .i64 0]) (by simp only [results, Tryd.results9]; go_simp) rfl
      (TPost.mk_ok (c' := { c with pos := c.pos + vlen 10 c.ahead, code := 14 }) HC.out HR.out rfl rfl ⟨hf3.le1, hf3.le2, hf3.le3⟩ rfl (fun h => absurd h (by decide)) (two_far hc6 (Nat.ne_of_lt hlt) _ _) (two_grow hO6 (Nat.le_refl _) _ _))
end Go.Proofs.YtdjbgojdkaipfaaDoor
