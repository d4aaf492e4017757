/-
  Walks of package parent: the parts of a header's text, and reading it.
-/
import Derived.Test.YtdjbgojdkaipfaaHdr
import Derived.Test.YtdjbgojdkaipfaaIdent
namespace Go.Proofs.Ytdjbgojdkaipfaa
open Go.RowKit

theorem results_tmp5 {fn : Func} {t u v x y : Tmp} (h : fn.results = #[.tmp t, .tmp u, .tmp v, .tmp x, .tmp y]) (tmps : Array Value) (P : Program) (w : World) :
    (results fn tmps).run P w = .ok (.tuple #[tmps.getD t undef, tmps.getD u undef, tmps.getD v undef, tmps.getD x undef, tmps.getD y undef]) w := by simp [results, h]
def splitOk (s : List UInt8) : Bool := decide (55 ≤ s.length ∧ byteAt s 2 = 45 ∧ byteAt s 35 = 45 ∧ byteAt s 52 = 45)
def pV (s : List UInt8) : List UInt8 := s.take 2
def pT (s : List UInt8) : List UInt8 := (s.drop 3).take 32
def pX (s : List UInt8) : List UInt8 := (s.drop 36).take 16
def pF (s : List UInt8) : List UInt8 := (s.drop 53).take 2
def splitOut (s : List UInt8) : Value := if splitOk s = true then .tuple #[Sv (pV s), Sv (pT s), Sv (pX s), Sv (pF s), .bool true] else .tuple #[Sv [], Sv [], Sv [], Sv [], .bool false]
set_option maxRecDepth 100000 in
set_option maxHeartbeats 1000000 in
theorem split_any (s : List UInt8) (w : World) (hs : s.length ≤ 1125899906842624) :
    Calls Try.prog 102 #[Sv s] w fun e w' => e = .returned (splitOut s) ∧ Below w.heap.size w w' := by
  have HNO : splitOk s = false → Hid (splitOut s = .tuple #[Sv [], Sv [], Sv [], Sv [], .bool false]) := fun h => by unfold Hid splitOut; rw [h]; rfl
  by_cases h0 : s.length < 55
  · have HN := HNO (by unfold splitOk; exact decide_eq_false (fun h => by omega))
    clear HNO
    go_enter Try.func102, Try.ntmps102
    go_wp2
    refine bodyPost_ret (results_tmp5 rfl _ _ _) rfl ⟨by rw [HN.out]; rfl, Below.refl _ _⟩
  by_cases h1 : byteAt s 2 = 45
  case neg =>
    have HN := HNO (by unfold splitOk; exact decide_eq_false (fun h => h1 h.2.1))
    have b1 : (byteAt s 2 != 45) = true := by simpa using h1
    clear HNO h1
    go_enter Try.func102, Try.ntmps102
    go_wp2
    refine bodyPost_ret (results_tmp5 rfl _ _ _) rfl ⟨by rw [HN.out]; rfl, Below.refl _ _⟩
  have b1 : (byteAt s 2 != 45) = false := by simpa using h1
  by_cases h2 : byteAt s 35 = 45
  case neg =>
    have HN := HNO (by unfold splitOk; exact decide_eq_false (fun h => h2 h.2.2.1))
    have b2 : (byteAt s 35 != 45) = true := by simpa using h2
    clear HNO h2 h1
    go_enter Try.func102, Try.ntmps102
    go_wp2
    refine bodyPost_ret (results_tmp5 rfl _ _ _) rfl ⟨by rw [HN.out]; rfl, Below.refl _ _⟩
  have b2 : (byteAt s 35 != 45) = false := by simpa using h2
  by_cases h3 : byteAt s 52 = 45
  case neg =>
    have HN := HNO (by unfold splitOk; exact decide_eq_false (fun h => h3 h.2.2.2))
    have b3 : (byteAt s 52 != 45) = true := by simpa using h3
    clear HNO h3 h2 h1
    go_enter Try.func102, Try.ntmps102
    go_wp2
    refine bodyPost_ret (results_tmp5 rfl _ _ _) rfl ⟨by rw [HN.out]; rfl, Below.refl _ _⟩
  have b3 : (byteAt s 52 != 45) = false := by simpa using h3
  have HN := hid (show splitOut s = .tuple #[Sv (s.take 2), Sv ((s.drop 3).take 32), Sv ((s.drop 36).take 16), Sv ((s.drop 53).take 2), .bool true] by unfold splitOut; rw [if_pos (by unfold splitOk; exact decide_eq_true ⟨by omega, h1, h2, h3⟩)]; rfl)
  clear HNO h1 h2 h3
  have q : 55 ≤ (s.length : Int) := by omega
  have q2 : 2 ≤ (s.length : Int) := by omega
  have q3 : 35 ≤ (s.length : Int) := by omega
  have q4 : 52 ≤ (s.length : Int) := by omega
  go_enter Try.func102, Try.ntmps102
  go_wp2_with fail
  go_quiet (fail)
  go_wp2
  refine bodyPost_ret (results_tmp5 rfl _ _ _) rfl ⟨by rw [HN.out]; rfl, ext_drewN _ _⟩
def oneV (s : List UInt8) : Int := match hexDec s with
  | some b => if b.length = 1 then byteAt b 0 else 0
  | none => 0
def oneOk (s : List UInt8) : Bool := match hexDec s with
  | some b => decide (b.length = 1)
  | none => false
theorem oneV_bd (s : List UInt8) : 0 ≤ oneV s ∧ oneV s ≤ 255 := by
  unfold oneV
  split
  · split
    · exact ⟨byteAt_lo _ _, byteAt_hi _ _⟩
    · omega
  · omega
set_option maxRecDepth 100000 in
set_option maxHeartbeats 1000000 in
theorem one_any (s : List UInt8) (w : World) (hs : s.length ≤ 140737488355328) :
    Calls Try.prog 103 #[Sv s] w fun e w' => e = .returned (.tuple #[.int .u8 (oneV s), .bool (oneOk s)]) ∧ Below w.heap.size w w' := by
  cases hd : hexDec s with
  | none =>
    have HO := hid (show hexOut s = .tuple #[Sv [], .int .i64 3] by unfold hexOut; rw [hd]; rfl)
    have H1 := hid (show oneV s = 0 by unfold oneV; rw [hd])
    have H2 := hid (show oneOk s = false by unfold oneOk; rw [hd])
    clear hd
    go_enter Try.func103, Try.ntmps103
    go_wp2_with fail
    refine (hread_any s _ hs).mono ?_; rintro e w1 ⟨rfl, hb1⟩
    rw [HO.out]
    go_wp2
    go_ret2
    exact ⟨by rw [H1.out, H2.out]; rfl, hb1⟩
  | some b =>
    have HO := hid (show hexOut s = .tuple #[Sv b, .int .i64 0] by unfold hexOut; rw [hd]; rfl)
    have hl2 := hexDec_length s b hd
    have hbl : b.length ≤ 140737488355328 := by omega
    by_cases hl : b.length = 1
    · have H1 := hid (show oneV s = byteAt b 0 by unfold oneV; rw [hd]; simp only []; rw [if_pos hl])
      have H2 := hid (show oneOk s = true by unfold oneOk; rw [hd]; simp only []; rw [decide_eq_true hl])
      have h1 : ((b.length : Int) != 1) = false := by rw [hl]; rfl
      have h0 : 0 < b.length := by omega
      clear hd hl hl2
      go_enter Try.func103, Try.ntmps103
      go_wp2_with fail
      refine (hread_any s _ hs).mono ?_; rintro e w1 ⟨rfl, hb1⟩
      rw [HO.out]
      go_wp2
      go_ret2
      exact ⟨by rw [H1.out, H2.out]; rfl, hb1⟩
    · have H1 := hid (show oneV s = 0 by unfold oneV; rw [hd]; simp only []; rw [if_neg hl])
      have H2 := hid (show oneOk s = false by unfold oneOk; rw [hd]; simp only []; rw [decide_eq_false hl])
      have h1 : ((b.length : Int) != 1) = true := by rw [bne_iff_ne]; omega
      clear hd hl hl2
      go_enter Try.func103, Try.ntmps103
      go_wp2_with fail
      refine (hread_any s _ hs).mono ?_; rintro e w1 ⟨rfl, hb1⟩
      rw [HO.out]
      go_wp2
      go_ret2
      exact ⟨by rw [H1.out, H2.out]; rfl, hb1⟩
end Go.Proofs.Ytdjbgojdkaipfaa
