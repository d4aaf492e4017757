/-
  Walks of package deci.
-/
import Derived.Test.YtdjbgojdkaipfaaPDeci
import Derived.Test.YtdjbgojdkaipfaaArr
import Derived.Outline
import Derived.Deep.DeepFit
namespace Go.Proofs.Ytdjbgojdkaipfaa
open Go.RowKit

theorem decOk_nil : decOk [] = false := rfl
theorem decOk_lead {s : List UInt8} (h0 : byteAt s 0 = 48) (h1 : 1 < s.length) : decOk s = false := by
  rw [Bool.eq_false_iff]; intro h
  obtain ⟨_, _, h3⟩ := (decOk_iff s).1 h
  have := h3 h0; omega
theorem decOk_bad {s : List UInt8} {k : Nat} (hk : k < s.length) (h : byteAt s k < 48 ∨ 57 < byteAt s k) : decOk s = false := by
  rw [Bool.eq_false_iff]; intro hh
  obtain ⟨h1, _, _⟩ := (decOk_iff s).1 hh
  have := h1 k hk; omega
theorem decOk_all {s : List UInt8} (h1 : ∀ j, j < s.length → 48 ≤ byteAt s j ∧ byteAt s j ≤ 57) (h2 : s ≠ []) (h3 : byteAt s 0 = 48 → s.length = 1) : decOk s = true := (decOk_iff s).2 ⟨h1, h2, h3⟩
def FRel (s : List UInt8) (k : Nat) : Prop := ∀ j, j < k → 48 ≤ byteAt s j ∧ byteAt s j ≤ 57
set_option maxHeartbeats 1000000 in
theorem formed_any (s : List UInt8) (w : World) (hs : s.length ≤ 1125899906842624) :
    Calls Try.prog 88 #[Sv s] w fun e w' => e = .returned (.bool (decOk s)) ∧ w = w' := by
  by_cases he : s = []
  · subst he
    have hd := hid decOk_nil
    have h0 : (([] : List UInt8) == []) = true := rfl
    go_enter Try.func88, Try.ntmps88
    go_wp2
    go_ret
    exact ⟨by rw [hd.out]; rfl, rfl⟩
  have h0 : (s == []) = false := by simpa using he
  have hl : 0 < s.length := List.length_pos_iff.2 he
  have HE := hid he
  clear he
  by_cases hz : byteAt s 0 = 48 ∧ 1 < s.length
  · have hd := hid (decOk_lead hz.1 hz.2)
    have h48 : (byteAt s 0 == 48) = true := by simpa using hz.1
    have h1 := hz.2
    clear hz
    go_enter Try.func88, Try.ntmps88
    go_wp2
    go_ret
    exact ⟨by rw [hd.out]; rfl, rfl⟩
  have HZ := hid (show byteAt s 0 = 48 → s.length = 1 from fun h => by have := fun h2 => hz ⟨h, h2⟩; omega)
  have hq : (byteAt s 0 == 48) = false ∨ ((byteAt s 0 == 48) = true ∧ s.length ≤ 1) := by
    by_cases h : byteAt s 0 = 48
    · exact .inr ⟨by simpa using h, by have := fun h2 => hz ⟨h, h2⟩; omega⟩
    · exact .inl (by simpa using h)
  clear hz
  rcases hq with h48 | ⟨h48, h1⟩
  all_goals
    go_enter Try.func88, Try.ntmps88
    go_wp2
    go_loop [18] (fun i => ∃ k : Nat, k ≤ s.length ∧ i = .int .i64 (k : Int) ∧ FRel s k) (fun i => s.length - (intOf i).toNat)
    case atStart => exact ⟨0, by omega, rfl, fun j hj => by omega⟩
    case round =>
      clear h48
      obtain ⟨k, hk, rfl, hr⟩ := hrel
      have HR := hid hr
      clear hr
      have n1 := byteAt_lo s k
      have n2 := byteAt_hi s k
      by_cases hlt : k < s.length
      · by_cases hb : byteAt s k < 48
        · have hd := hid (decOk_bad hlt (.inl hb))
          go_wp2
          go_ret
          exact ⟨by rw [hd.out]; rfl, rfl⟩
        by_cases hb2 : 57 < byteAt s k
        · have hd := hid (decOk_bad hlt (.inr hb2))
          go_wp2
          go_ret
          exact ⟨by rw [hd.out]; rfl, rfl⟩
        go_wp2
        go_round
        case rel =>
          refine ⟨k + 1, by omega, by go_num, fun j hj => ?_⟩
          by_cases h : j = k
          · subst h; omega
          · exact HR.out j (by omega)
        case measure => simp [intOf] <;> omega
      · have hd := hid (decOk_all (s := s) (fun j hj => HR.out j (by omega)) HE.out HZ.out)
        go_wp2
        go_ret
        exact ⟨by rw [hd.out]; rfl, rfl⟩

theorem decN_mono (s : List UInt8) (h : Digs s) : ∀ k, k ≤ s.length → decN (s.take k) ≤ decN s := by
  have H : ∀ d k, s.length - k = d → k ≤ s.length → decN (s.take k) ≤ decN s := by
    intro d
    induction d with
    | zero => intro k h1 h2; rw [List.take_of_length_le (by omega)]; omega
    | succ d ih =>
      intro k h1 h2
      have := ih (k + 1) (by omega) (by omega)
      rw [decN_take s k (by omega)] at this
      have h0 := (decN_bd (s.take k) (h.take k)).1
      have := h k (by omega)
      omega
  exact fun k hk => H _ k rfl hk
theorem decOk_digs {s : List UInt8} (h : decOk s = true) : Digs s := ((decOk_iff s).1 h).1
def capV (m : Int) (s : List UInt8) : Int := if decN s ≤ m then decN s else 0
def capC (m : Int) (s : List UInt8) : Int := if decN s ≤ m then 0 else 4
theorem cap_in {m : Int} {s : List UInt8} (h : decN s ≤ m) : capV m s = decN s ∧ capC m s = 0 := ⟨if_pos h, if_pos h⟩
theorem cap_out {m : Int} {s : List UInt8} (h : m < decN s) : capV m s = 0 ∧ capC m s = 4 := ⟨if_neg (by omega), if_neg (by omega)⟩
set_option maxHeartbeats 1000000 in
theorem worthI_any (s : List UInt8) (m : Int) (w : World) (hs : s.length ≤ 1125899906842624) (hd : Digs s) (m0 : 9 ≤ m) (m1 : m ≤ 9223372036854775807) :
    Calls Try.prog 89 #[Sv s, .int .i64 m] w fun e w' => e = .returned (.tuple #[.int .i64 (capV m s), .int .i64 (capC m s)]) ∧ w = w' := by
  have HM := hid (decN_mono s hd)
  have HD := hid hd
  clear hd
  go_enter Try.func89, Try.ntmps89
  go_wp2
  go_loop [6, 11] (fun n i => ∃ k : Nat, k ≤ s.length ∧ i = .int .i64 (k : Int) ∧ n = .int .i64 (decN (s.take k)) ∧ decN (s.take k) ≤ m) (fun _ i => s.length - (intOf i).toNat)
  case atStart => exact ⟨0, by omega, rfl, rfl, by rw [List.take_zero, decN_nil]; omega⟩
  case round =>
    obtain ⟨k, hk, rfl, rfl, hv⟩ := hrel
    by_cases hlt : k < s.length
    · obtain ⟨d0, d1⟩ := HD.out k hlt
      have hst := hid (decN_take s k hlt)
      have hm := HM.out (k + 1) (by omega)
      rw [hst.out] at hm
      have v0 := (decN_bd (s.take k) (HD.out.take k)).1
      generalize decN (s.take k) = V at hst hv hm v0 ⊢
      by_cases hb : (m - (byteAt s k - 48)) / 10 < V
      · have HG := hid (cap_out (m := m) (s := s) (by omega))
        clear hm
        go_wp2
        go_ret2
        exact ⟨by rw [HG.out.1, HG.out.2]; rfl, rfl⟩
      · clear hm
        go_wp2
        go_round
        case rel => exact ⟨k + 1, by omega, by go_num, by rw [hst.out]; go_num, by rw [hst.out]; omega⟩
        case measure => simp [intOf] <;> omega
    · have hkl : k = s.length := by omega
      subst hkl
      rw [List.take_length] at hv ⊢
      have HV := hid (cap_in hv)
      clear hv
      go_wp2
      go_ret2
      exact ⟨by rw [HV.out.1, HV.out.2]; rfl, rfl⟩
set_option maxHeartbeats 1000000 in
theorem worthU_any (s : List UInt8) (m : Int) (w : World) (hs : s.length ≤ 1125899906842624) (hd : Digs s) (m0 : 9 ≤ m) (m1 : m ≤ 18446744073709551615) :
    Calls Try.prog 90 #[Sv s, .int .u64 m] w fun e w' => e = .returned (.tuple #[.int .u64 (capV m s), .int .i64 (capC m s)]) ∧ w = w' := by
  have HM := hid (decN_mono s hd)
  have HD := hid hd
  clear hd
  go_enter Try.func90, Try.ntmps90
  go_wp2
  go_loop [6, 11] (fun n i => ∃ k : Nat, k ≤ s.length ∧ i = .int .i64 (k : Int) ∧ n = .int .u64 (decN (s.take k)) ∧ decN (s.take k) ≤ m) (fun _ i => s.length - (intOf i).toNat)
  case atStart => exact ⟨0, by omega, rfl, rfl, by rw [List.take_zero, decN_nil]; omega⟩
  case round =>
    obtain ⟨k, hk, rfl, rfl, hv⟩ := hrel
    by_cases hlt : k < s.length
    · obtain ⟨d0, d1⟩ := HD.out k hlt
      have hst := hid (decN_take s k hlt)
      have hm := HM.out (k + 1) (by omega)
      rw [hst.out] at hm
      have v0 := (decN_bd (s.take k) (HD.out.take k)).1
      generalize decN (s.take k) = V at hst hv hm v0 ⊢
      by_cases hb : (m - (byteAt s k - 48)) / 10 < V
      · have HG := hid (cap_out (m := m) (s := s) (by omega))
        clear hm
        go_wp2
        go_ret2
        exact ⟨by rw [HG.out.1, HG.out.2]; rfl, rfl⟩
      · clear hm
        go_wp2
        go_round
        case rel => exact ⟨k + 1, by omega, by go_num, by rw [hst.out]; go_num, by rw [hst.out]; omega⟩
        case measure => simp [intOf] <;> omega
    · have hkl : k = s.length := by omega
      subst hkl
      rw [List.take_length] at hv ⊢
      have HV := hid (cap_in hv)
      clear hv
      go_wp2
      go_ret2
      exact ⟨by rw [HV.out.1, HV.out.2]; rfl, rfl⟩
def uOut (s : List UInt8) : Value := .tuple #[.int .u64 (decVal 18446744073709551615 s), .int .i64 (decCode 18446744073709551615 s)]
theorem uOut_no {s : List UInt8} (h : decOk s = false) : uOut s = .tuple #[.int .u64 0, .int .i64 3] := by
  have hc : decCode 18446744073709551615 s = 3 := by simp [decCode, h]
  unfold uOut decVal; rw [hc]; rfl
theorem uOut_yes {s : List UInt8} (h : decOk s = true) : uOut s = .tuple #[.int .u64 (capV 18446744073709551615 s), .int .i64 (capC 18446744073709551615 s)] := by
  unfold uOut decVal decCode capV capC
  rw [if_pos h]
  by_cases hm : decN s ≤ 18446744073709551615
  · simp only [if_pos hm, if_true]
  · simp only [if_neg hm]; rfl
set_option maxHeartbeats 1000000 in
theorem readU_any (s : List UInt8) (w : World) (hs : s.length ≤ 1125899906842624) :
    Calls Try.prog 24 #[Sv s] w fun e w' => e = .returned (uOut s) ∧ w = w' := by
  cases hd : decOk s with
  | false =>
    have HN := hid (uOut_no hd)
    go_enter Try.func24, Try.ntmps24
    go_wp2_with (go_at_call 88; refine (formed_any _ _ hs).mono ?_; rintro e w' ⟨rfl, rfl⟩)
    go_ret2
    exact ⟨by rw [HN.out]; rfl, rfl⟩
  | true =>
    have HN := hid (uOut_yes hd)
    have hg := hid (decOk_digs hd)
    go_enter Try.func24, Try.ntmps24
    go_wp2_with fail
    refine (formed_any _ _ hs).mono ?_; rintro e w' ⟨rfl, rfl⟩
    go_wp2_with fail
    refine (worthU_any s _ _ hs hg.out (by omega) (by omega)).mono ?_; rintro e w' ⟨rfl, rfl⟩
    go_wp2_with fail
    go_ret2
    exact ⟨by rw [HN.out]; rfl, rfl⟩
def iOut (s : List UInt8) : Value := .tuple #[.int .i64 (intVal s), .int .i64 (intCode s)]
theorem iOut_code {s : List UInt8} {c : Int} (h : intCode s = c) (hc : c ≠ 0) : iOut s = .tuple #[.int .i64 0, .int .i64 c] := by
  unfold iOut intVal; rw [h, if_neg hc]
theorem iOut_plain_no {s : List UInt8} (hn : negS s = false) (h : decOk s = false) : iOut s = .tuple #[.int .i64 0, .int .i64 3] :=
  iOut_code (by simp [intCode, hn, decCode, h]) (by decide)
theorem iOut_plain {s : List UInt8} (hn : negS s = false) (h : decOk s = true) : iOut s = .tuple #[.int .i64 (capV 9223372036854775807 s), .int .i64 (capC 9223372036854775807 s)] := by
  unfold iOut intVal intCode decCode capV capC
  simp only [hn, h, Bool.false_eq_true, if_false, if_true]
  by_cases hm : decN s ≤ 9223372036854775807
  · simp only [if_pos hm, if_true]
  · simp only [if_neg hm]; rfl
theorem iOut_neg_no {s : List UInt8} (hn : negS s = true) (h : decOk s.tail = false) : iOut s = .tuple #[.int .i64 0, .int .i64 3] :=
  iOut_code (by unfold intCode; rw [if_pos hn]; split; · rfl
                unfold decCode; rw [h]; rfl) (by decide)
theorem iOut_neg_zero {s : List UInt8} (hn : negS s = true) (h : s.tail = [48]) : iOut s = .tuple #[.int .i64 0, .int .i64 3] :=
  iOut_code (by unfold intCode; rw [if_pos hn, if_pos h]) (by decide)
theorem iOut_neg {s : List UInt8} (hn : negS s = true) (h : decOk s.tail = true) (h0 : s.tail ≠ [48]) : iOut s = .tuple #[.int .i64 (- capV 9223372036854775808 s.tail), .int .i64 (capC 9223372036854775808 s.tail)] := by
  unfold iOut intVal intCode decCode capV capC
  rw [hn, if_pos rfl, if_neg h0, if_pos h, if_pos rfl]
  by_cases hm : decN s.tail ≤ 9223372036854775808
  · simp only [if_pos hm, if_true]
  · simp only [if_neg hm]; rfl
theorem capV_bd {s : List UInt8} (m : Int) (h : decOk s = true) (m0 : 0 ≤ m) : 0 ≤ capV m s ∧ capV m s ≤ m := by
  have := decN_nonneg h
  unfold capV; split <;> omega
theorem ret2_int {k : IntKind} {a b : Int} {x : Value} (h : a = b) : Ending.returned (.tuple #[.int k a, x]) = Ending.returned (.tuple #[.int k b, x]) := by rw [h]
theorem neg_wrap (V : Int) (h0 : 0 ≤ V) (h1 : V ≤ 9223372036854775808) : wrap64 (IntKind.u64.wrap (-V)) = -V := by
  rw [IntKind.wrap_u64]; unfold wrap64; omega
set_option maxHeartbeats 2000000 in
theorem readI_any (s : List UInt8) (w : World) (hs : s.length ≤ 1125899906842624) :
    Calls Try.prog 20 #[Sv s] w fun e w' => e = .returned (iOut s) ∧ w = w' := by
  cases hn : negS s with
  | false =>
    have hq : s = [] ∨ (s ≠ [] ∧ byteAt s 0 ≠ 45) := by
      by_cases h : s = []
      · exact .inl h
      · exact .inr ⟨h, fun h2 => by simp [negS, h, h2] at hn⟩
    cases hd : decOk s with
    | false =>
      have HN := hid (iOut_plain_no hn hd)
      clear hn
      rcases hq with rfl | ⟨h0, h1⟩
      · have h0 : (([] : List UInt8) == []) = true := rfl
        go_enter Try.func20, Try.ntmps20
        go_wp2_with fail
        refine (formed_any _ _ hs).mono ?_; rintro e w' ⟨rfl, rfl⟩
        go_wp2_with fail
        go_ret2
        exact ⟨by rw [HN.out]; rfl, rfl⟩
      · have hl : 0 < s.length := List.length_pos_iff.2 h0
        have h2 : (s == []) = false := by simpa using h0
        have h3 : (byteAt s 0 != 45) = true := by simpa using h1
        clear h0 h1
        go_enter Try.func20, Try.ntmps20
        go_wp2_with fail
        refine (formed_any _ _ hs).mono ?_; rintro e w' ⟨rfl, rfl⟩
        go_wp2_with fail
        go_ret2
        exact ⟨by rw [HN.out]; rfl, rfl⟩
    | true =>
      have HN := hid (iOut_plain hn hd)
      have hg := hid (decOk_digs hd)
      clear hn
      rcases hq with rfl | ⟨h0, h1⟩
      · exact absurd hd (by decide)
      · have hl : 0 < s.length := List.length_pos_iff.2 h0
        have h2 : (s == []) = false := by simpa using h0
        have h3 : (byteAt s 0 != 45) = true := by simpa using h1
        clear h0 h1
        go_enter Try.func20, Try.ntmps20
        go_wp2_with fail
        refine (formed_any _ _ hs).mono ?_; rintro e w' ⟨rfl, rfl⟩
        go_wp2_with fail
        refine (worthI_any s _ _ hs hg.out (by omega) (by omega)).mono ?_; rintro e w' ⟨rfl, rfl⟩
        go_wp2_with fail
        go_ret2
        exact ⟨by rw [HN.out]; rfl, rfl⟩
  | true =>
    obtain ⟨h0, h1⟩ : s ≠ [] ∧ byteAt s 0 = 45 := by simpa [negS] using hn
    have hl : 0 < s.length := List.length_pos_iff.2 h0
    have h2 : (s == []) = false := by simpa using h0
    have h3 : (byteAt s 0 != 45) = false := by simpa using h1
    have hdl : s.tail.length ≤ 1125899906842624 := by simp; omega
    clear h0 h1
    cases hd : decOk s.tail with
    | false =>
      have HN := hid (iOut_neg_no hn hd)
      have HD := hid hd
      clear hd hn
      go_enter Try.func20, Try.ntmps20
      go_wp2_with fail
      refine (formed_any _ _ hdl).mono ?_; rintro e w' ⟨rfl, rfl⟩
      rw [HD.out]
      go_wp2_with fail
      go_ret2
      exact ⟨by rw [HN.out]; rfl, rfl⟩
    | true =>
      by_cases h48 : s.tail = [48]
      · have HN := hid (iOut_neg_zero hn h48)
        have HD := hid hd
        have HT := hid h48
        clear hd hn h48
        go_enter Try.func20, Try.ntmps20
        go_wp2_with fail
        refine (formed_any _ _ hdl).mono ?_; rintro e w' ⟨rfl, rfl⟩
        rw [HD.out]
        have h5 : (s.tail == [48]) = true := by rw [HT.out]; rfl
        go_wp2_with fail
        go_ret2
        exact ⟨by rw [HN.out]; rfl, rfl⟩
      · have HN := hid (iOut_neg hn hd h48)
        have hg := hid (decOk_digs hd)
        have HD := hid hd
        have HB := hid (capV_bd 9223372036854775808 hd (by omega))
        have h5 : (s.tail == [48]) = false := by simpa using h48
        clear hn hd h48
        go_enter Try.func20, Try.ntmps20
        go_wp2_with fail
        refine (formed_any _ _ hdl).mono ?_; rintro e w' ⟨rfl, rfl⟩
        rw [HD.out]
        go_wp2_with fail
        refine (worthU_any s.tail _ _ hdl hg.out (by omega) (by omega)).mono ?_; rintro e w' ⟨rfl, rfl⟩
        go_wp2_with fail
        go_ret2
        exact ⟨by rw [HN.out]; exact ret2_int (neg_wrap _ HB.out.1 HB.out.2), rfl⟩
set_option maxHeartbeats 1000000 in
theorem dgrown_any (vb : Value) (p : List UInt8) (w : World) (hb0 : Bs w w.heap.size vb p) (hs : p.length ≤ 140737488355328) :
    Calls Try.prog 91 #[vb] w fun e w' => ∃ v, e = .returned v ∧ Own w' w.heap.size v p ∧ Below w.heap.size w w' := by
  obtain ⟨A, c, rfl, hlc, hr⟩ := hb0
  have hb0 : Hid (Bs w w.heap.size (.slice A p.length c) p) := ⟨A, c, rfl, hlc, hr⟩
  clear hr hlc
  go_enter Try.func91, Try.ntmps91
  go_wp2_with (first
    | (refine wpList_makeLen rfl _ _ rfl .i64 .i64 _ _ p.length (p.length + 21) rfl rfl rfl (by omega) (by omega) (by omega) w (Below.refl _ _) ?_; intro g w0 hg hown0 hbw0)
    | (refine wpList_copyAll rfl _ _ rfl w g p.length _ _ w.heap.size _ p rfl rfl hown0 rfl (hb0.out.below hbw0) hbw0 ?_; intro w1 hown1 hbw1))
  go_ret
  exact ⟨_, rfl, hown1, hbw1⟩
theorem b8s_set (L : List UInt8) (j : Nat) (n : Int) (h0 : 0 ≤ n) (h1 : n ≤ 255) : (b8s L).toArray.setIfInBounds j (.int .u8 n) = (b8s (L.set j (bt n))).toArray := by
  rw [← b8_bt n h0 h1]
  simp [b8s, List.map_set]
theorem drop_set (L : List UInt8) (j : Nat) (b : UInt8) (h : j < L.length) : (L.set j b).drop j = b :: L.drop (j + 1) := by
  rw [List.drop_eq_getElem_cons (by simpa using h), List.getElem_set_self]
  rw [List.drop_set_of_lt (by omega)]
theorem blk_byte {w : World} {g j : Nat} {t : TypeId} {L : List UInt8} (h : Blk w g t (b8s L).toArray) (hj : j < L.length) : w.cell? ⟨g, j, none⟩ = some (.int .u8 (byteAt L j)) := by
  rw [h.cell j]
  simp [b8s, b8, byteAt, List.getD, hj]
theorem add_off (g i j : Nat) : (⟨g, i, none⟩ : Addr).add j = ⟨g, i + j, none⟩ := by
  unfold Addr.add; split <;> simp_all
theorem blk_from {w : World} {g j : Nat} {t : TypeId} {L : List UInt8} (h : Blk w g t (b8s L).toArray) : ∀ i u, (b8s (L.drop j))[i]? = some u → w.cell? ((⟨g, j, none⟩ : Addr).add i) = some u := by
  intro i u hu
  rw [add_off, h.cell (j + i), ← hu]
  simp [b8s]
def LRel (w : World) (u : Int) (iv uv : Value) (wr : World) : Prop :=
  ∃ (f j : Nat) (n : Int) (L : List UInt8), f ≤ j ∧ j ≤ 19 ∧ 0 ≤ n ∧ n < 10 ^ (f + 1) ∧ n ≤ 18446744073709551615 ∧ iv = .int .i64 ((j : Int) + 1) ∧ uv = .int .u64 n ∧ L.length = 20 ∧ decB f n ++ L.drop (j + 1) = decB 19 u ∧
    Blk wr w.heap.size 188 (b8s L).toArray ∧ Below w.heap.size w wr
theorem decB_ex (f : Nat) (n : Int) (tl : List UInt8) (h1 : n < 10 ^ (f + 1)) (h2 : ¬ n < 10) : ∃ g, f = g + 1 ∧ n / 10 < 10 ^ (g + 1) ∧ decB f n ++ tl = decB g (n / 10) ++ (bt (48 + n % 10) :: tl) := by
  cases f with
  | zero => simp at h1; omega
  | succ g => exact ⟨g, rfl, by rw [Int.pow_succ] at h1; omega, decB_step g n tl h2⟩
set_option maxRecDepth 100000 in
set_option maxHeartbeats 2000000 in
theorem lay_any (w0 : World) (vb : Value) (p : List UInt8) (u : Int) (w : World) (hown : Own w w0.heap.size vb p) (hb0 : Below w0.heap.size w0 w) (h0 : 0 ≤ u) (h1 : u ≤ 18446744073709551615) (hs : p.length ≤ 140737488355000) :
    Calls Try.prog 92 #[vb, .int .u64 u] w fun e w' => ∃ v, e = .returned v ∧ Own w' w0.heap.size v (p ++ decB 19 u) ∧ Below w0.heap.size w0 w' := by
  have hrel0 : LRel w u (.int .i64 20) (.int .u64 u) (w.alloc (.cells #[.int .u8 0, .int .u8 0, .int .u8 0, .int .u8 0, .int .u8 0, .int .u8 0, .int .u8 0, .int .u8 0, .int .u8 0, .int .u8 0, .int .u8 0, .int .u8 0, .int .u8 0, .int .u8 0, .int .u8 0, .int .u8 0, .int .u8 0, .int .u8 0, .int .u8 0, .int .u8 0] 188)) :=
    ⟨19, 19, u, List.replicate 20 0, by omega, by omega, h0, by have : (10 : Int) ^ (19 + 1) = 100000000000000000000 := by decide +kernel
                                                                omega, h1, rfl, rfl, rfl, by simp, Blk.new w _ _, ext_alloc w _⟩
  have HO := hid hown
  have HB0 := hid hb0
  clear hown hb0
  go_enter Try.func92, Try.ntmps92
  go_wp2_with fail
  try go_step3
  go_wp2_with fail
  go_loopw [6, 1] (fun i n wr => LRel w u i n wr) (fun i _ _ => (intOf i).toNat)
  case atStart => exact hrel0
  case round =>
    clear hrel0
    obtain ⟨f, j, n, L, hf, hj, n0, n1, n2, rfl, rfl, hL, hdec, hblk, hbw⟩ := hrel
    have hcell := blk_byte hblk (j := j) (by omega)
    have hfr := hblk.frozen j
    have HS := hid (show Blk (wr.setCell ⟨w.heap.size, j, none⟩ (.int .u8 (48 + n % 10))) w.heap.size 188 (b8s (L.set j (bt (48 + n % 10)))).toArray by rw [← b8s_set _ _ _ (by omega) (by omega)]; exact hblk.set_ j _)
    have HBW := hid (show Below w.heap.size w (wr.setCell ⟨w.heap.size, j, none⟩ (.int .u8 (48 + n % 10))) from hbw.setCell (Nat.le_refl _) _)
    have HN1 := hid n1
    have HL := hid hL
    have HD := hid hdec
    have HDS := hid (drop_set L j (bt (48 + n % 10)) (by omega))
    clear hblk hbw n1 hL hdec
    by_cases hlt : n < 10
    · have hq : (n / 10 == 0) = true := by simp; omega
      have hsl := fun W => run_slice_from_arr (t := 188) (n := 20) Try.underlying188 w.heap.size j .i64 W (by omega)
      rw [if_neg (by omega)] at hsl
      have hT : decB 19 u = (L.set j (bt (48 + n % 10))).drop j := by rw [HDS.out, ← HD.out, decB_small f n hlt]; rfl
      have hTl : (decB 19 u).length = 20 - j := by rw [hT, List.length_drop, List.length_set, HL.out]
      have HT := hid hT
      have HTL := hid hTl
      have HNEW := hid (blk_from HS.out (j := j))
      have HO2 := hid (HO.out.below HBW.out)
      have HB2 := hid (HB0.out.trans (HBW.out.mono HB0.out.size))
      clear hT hTl
      go_wp2_with (at_builtin; refine wpList_app rfl (.tmp 19) (.tmp 21) rfl w0 _ p rfl HO2.out HB2.out ⟨w.heap.size, j, none⟩ (20 - j) (20 - j) (decB 19 u) rfl HTL.out (by rw [HT.out]; exact HNEW.out) (by omega) ?_; intro v1 w1 hown1 hbw1)
      go_ret
      exact ⟨_, rfl, hown1, hbw1⟩
    · have hq : (n / 10 == 0) = false := by simp; omega
      go_wp2_with fail
      go_roundw
      case rel =>
        obtain ⟨g, rfl, hg1, hg2⟩ := decB_ex f n (L.drop (j + 1)) HN1.out hlt
        refine ⟨g, j - 1, n / 10, L.set j (bt (48 + n % 10)), by omega, by omega, by omega, hg1, by omega, by go_num, by go_num, by simp [HL.out], ?_, HS.out, HBW.out⟩
        rw [show j - 1 + 1 = j by omega, HDS.out, ← hg2, HD.out]
      case measure => simp [intOf] <;> omega

theorem wrap64u (n : Int) (h0 : -9223372036854775808 ≤ n) (h1 : n < 0) : IntKind.u64.wrap (-(IntKind.u64.wrap n)) = -n := by
  rw [IntKind.wrap_u64, IntKind.wrap_u64]; omega
set_option maxHeartbeats 1000000 in
theorem putU_any (vb : Value) (p : List UInt8) (u : Int) (w : World) (hb0 : Bs w w.heap.size vb p) (h0 : 0 ≤ u) (h1 : u ≤ 18446744073709551615) (hs : p.length ≤ 140737488354000) :
    Calls Try.prog 26 #[vb, .int .u64 u] w fun e w' => ∃ v, e = .returned v ∧ Own w' w.heap.size v (p ++ decB 19 u) ∧ Below w.heap.size w w' := by
  go_enter Try.func26, Try.ntmps26
  go_wp2_with fail
  refine (dgrown_any _ p _ hb0 (by omega)).mono ?_; rintro e w1 ⟨v1, rfl, hown1, hb1⟩
  go_wp2_with fail
  refine (lay_any w v1 p u _ hown1 hb1 h0 h1 (by omega)).mono ?_; rintro e w2 ⟨v2, rfl, hown2, hb2⟩
  go_wp2_with fail
  go_ret
  exact ⟨_, rfl, hown2, hb2⟩
set_option maxHeartbeats 1000000 in
theorem put_any (vb : Value) (p : List UInt8) (n : Int) (w : World) (hb0 : Bs w w.heap.size vb p) (h0 : -9223372036854775808 ≤ n) (h1 : n ≤ 9223372036854775807) (hs : p.length ≤ 140737488354000) :
    Calls Try.prog 21 #[vb, .int .i64 n] w fun e w' => ∃ v, e = .returned v ∧ Own w' w.heap.size v (p ++ decT n) ∧ Below w.heap.size w w' := by
  by_cases hn : n < 0
  · have HT := hid (show decT n = 45 :: decB 19 (-n) by unfold decT; rw [if_pos hn])
    go_enter Try.func21, Try.ntmps21
    go_wp2_with fail
    refine (dgrown_any _ p _ hb0 (by omega)).mono ?_; rintro e w1 ⟨v1, rfl, hown1, hb1⟩
    go_wp2_with (at_builtin; refine wpList_app1 rfl (.tmp 10) (.tmp 11) rfl w v1 p rfl 45 hown1 hb1 rfl (by omega) (by omega) (by omega) ?_; intro v2 w2 hown2 hb2)
    rw [wrap64u n h0 hn]
    refine (lay_any w v2 (p ++ [bt 45]) (-n) _ hown2 hb2 (by omega) (by omega) (by rw [List.length_append]; simp; omega)).mono ?_; rintro e w3 ⟨v3, rfl, hown3, hb3⟩
    go_wp2_with fail
    go_ret
    exact ⟨_, rfl, by rw [HT.out]; rw [List.append_assoc] at hown3; exact hown3, hb3⟩
  · have HT := hid (show decT n = decB 19 n by unfold decT; rw [if_neg hn])
    go_enter Try.func21, Try.ntmps21
    go_wp2_with fail
    refine (dgrown_any _ p _ hb0 (by omega)).mono ?_; rintro e w1 ⟨v1, rfl, hown1, hb1⟩
    go_wp2_with fail
    refine (lay_any w v1 p n _ hown1 hb1 (by omega) (by omega) (by omega)).mono ?_; rintro e w2 ⟨v2, rfl, hown2, hb2⟩
    go_wp2_with fail
    go_ret
    exact ⟨_, rfl, by rw [HT.out]; exact hown2, hb2⟩
end Go.Proofs.Ytdjbgojdkaipfaa
