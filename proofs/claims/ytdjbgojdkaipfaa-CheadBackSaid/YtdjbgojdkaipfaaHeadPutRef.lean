/-
  The laying of heads, as the document says it.
-/
import Derived.Test.YtdjbgojdkaipfaaHeadRefD
import Derived.Test.YtdjbgojdkaipfaaHeadT
namespace Go.Proofs.Ytdjbgojdkaipfaa
open Go.RowKit

set_option maxRecDepth 100000 in
theorem rbyte1_any (k : Int) (w : World) (h0 : 0 ≤ k) (h1 : k ≤ 255) :
    Calls Try.prog 122 #[.int .u8 k] w fun e w' => e = .returned (Sv [bt k]) ∧ Below w.heap.size w w' := by
  have hcv := fun w => conv_one w k h0 h1
  go_enter Try.func122, Try.ntmps122
  go_wp2
  go_ret
  exact ⟨rfl, Below.alloc (Below.refl _ _) (Nat.le_refl _) _⟩
set_option maxRecDepth 100000 in
set_option maxHeartbeats 1000000 in
theorem rputlist_any (n k : Int) (w : World) (h0 : 0 ≤ k) (h1 : k ≤ 255) :
    Calls Try.prog 63 #[.int .i64 n, .int .u8 k] w fun e w' => e = .returned (Sv (listB n k)) ∧ Below w.heap.size w w' := by
  by_cases hk : isK k = true
  case neg =>
    have HL := hid (show listB n k = [] by rw [listB, if_neg (fun h => hk h.1)])
    have HK := hid (show isK k = false by simpa using hk)
    clear hk
    go_enter Try.func63, Try.ntmps63
    go_wp2_with fail
    refine (ris_any k _ h0 h1).mono ?_; rintro e w2 ⟨rfl, rfl⟩
    rw [HK.out]
    go_wp2_with fail
    go_ret
    exact ⟨by rw [HL.out]; rfl, Below.refl _ _⟩
  have HK := hid hk
  obtain ⟨q0, q1⟩ : 1 ≤ k ∧ k ≤ 12 := by simpa [isK] using hk
  by_cases n0 : n < 0
  · have HL := hid (show listB n k = [] by rw [listB, if_neg (fun h => by omega)])
    clear hk
    go_enter Try.func63, Try.ntmps63
    go_wp2_with fail
    refine (ris_any k _ h0 h1).mono ?_; rintro e w2 ⟨rfl, rfl⟩
    rw [HK.out]
    go_wp2_with fail
    go_ret
    exact ⟨by rw [HL.out]; rfl, Below.refl _ _⟩
  by_cases n1 : 2147483647 < n
  · have HL := hid (show listB n k = [] by rw [listB, if_neg (fun h => by omega)])
    clear hk
    go_enter Try.func63, Try.ntmps63
    go_wp2_with fail
    refine (ris_any k _ h0 h1).mono ?_; rintro e w2 ⟨rfl, rfl⟩
    rw [HK.out]
    go_wp2_with fail
    go_ret
    exact ⟨by rw [HL.out]; rfl, Below.refl _ _⟩
  by_cases n15 : n < 15
  · have HL := hid (show listB n k = [bt (n * 16 + k)] by rw [listB, if_pos ⟨hk, by omega, by omega⟩, if_pos n15])
    have hw1 : IntKind.i64.wrap (16 * n) = 16 * n := by rw [IntKind.wrap_i64]; omega
    have hw2 : IntKind.u8.wrap (16 * n) = 16 * n := by rw [IntKind.wrap_u8]; omega
    have hw3 : 16 * n % 256 = 16 * n := by omega
    have hw4 : IntKind.u8.wrap (16 * n + k) = 16 * n + k := by rw [IntKind.wrap_u8]; omega
    have hw5 : (16 * n + k) % 256 = 16 * n + k := by omega
    clear hk
    go_enter Try.func63, Try.ntmps63
    go_wp2_with fail
    refine (ris_any k _ h0 h1).mono ?_; rintro e w2 ⟨rfl, rfl⟩
    rw [HK.out]
    go_wp2_with fail
    refine (rbyte1_any (16 * n + k) _ (by omega) (by omega)).mono ?_; rintro e w2 ⟨rfl, hb2⟩
    go_wp2_with fail
    go_ret
    exact ⟨by rw [HL.out, Int.mul_comm n 16]; rfl, hb2⟩
  · have HL := hid (show listB n k = [bt (240 + k)] ++ varB 9 n by rw [listB, if_pos ⟨hk, by omega, by omega⟩, if_neg n15]; rfl)
    have hw4 : IntKind.u8.wrap (240 + k) = 240 + k := by rw [IntKind.wrap_u8]; omega
    have hw5 : (240 + k) % 256 = 240 + k := by omega
    have hw6 : IntKind.u64.wrap n = n := by rw [IntKind.wrap_u64]; omega
    have hlen := varB_len_le 9 10 n (by omega) (by omega) (by omega)
    clear hk
    go_enter Try.func63, Try.ntmps63
    go_wp2_with fail
    refine (ris_any k _ h0 h1).mono ?_; rintro e w2 ⟨rfl, rfl⟩
    rw [HK.out]
    go_wp2_with fail
    refine (rbyte1_any (240 + k) _ (by omega) (by omega)).mono ?_; rintro e w2 ⟨rfl, hb2⟩
    go_wp2_with fail
    refine (rvput_any 9 n _ (by omega) (by omega) (by omega) (by omega)).mono ?_; rintro e w3 ⟨rfl, hb3⟩
    go_wp2_with fail
    go_ret
    exact ⟨by rw [HL.out]; rfl, ext_trans hb2 hb3⟩
set_option maxRecDepth 100000 in
set_option maxHeartbeats 1000000 in
theorem rputmap_any (n k j : Int) (w : World) (h0 : 0 ≤ k) (h1 : k ≤ 255) (g0 : 0 ≤ j) (g1 : j ≤ 255) :
    Calls Try.prog 64 #[.int .i64 n, .int .u8 k, .int .u8 j] w fun e w' => e = .returned (Sv (mapB n k j)) ∧ Below w.heap.size w w' := by
  by_cases hz : n = 0
  · have HL := hid (show mapB n k j = [bt 0] by rw [mapB, if_pos hz])
    have hz1 : (n == 0) = true := by simpa using hz
    clear hz
    go_enter Try.func64, Try.ntmps64
    go_wp2_with fail
    refine (rbyte1_any 0 _ (by omega) (by omega)).mono ?_; rintro e w2 ⟨rfl, hb2⟩
    go_wp2_with fail
    go_ret
    exact ⟨by rw [HL.out]; rfl, hb2⟩
  have hz1 : (n == 0) = false := by simpa using hz
  by_cases hk : isK k = true
  case neg =>
    have HL := hid (show mapB n k j = [] by rw [mapB, if_neg hz, if_neg (fun h => hk h.1)])
    have HK := hid (show isK k = false by simpa using hk)
    clear hk hz
    go_enter Try.func64, Try.ntmps64
    go_wp2_with fail
    refine (ris_any k _ h0 h1).mono ?_; rintro e w2 ⟨rfl, rfl⟩
    rw [HK.out]
    go_wp2_with fail
    go_ret
    exact ⟨by rw [HL.out]; rfl, Below.refl _ _⟩
  have HK := hid hk
  by_cases hj : isK j = true
  case neg =>
    have HL := hid (show mapB n k j = [] by rw [mapB, if_neg hz, if_neg (fun h => hj h.2.1)])
    have HJ := hid (show isK j = false by simpa using hj)
    clear hk hj hz
    go_enter Try.func64, Try.ntmps64
    go_wp2_with fail
    refine (ris_any k _ h0 h1).mono ?_; rintro e w2 ⟨rfl, rfl⟩
    rw [HK.out]
    go_wp2_with fail
    refine (ris_any j _ g0 g1).mono ?_; rintro e w2 ⟨rfl, rfl⟩
    rw [HJ.out]
    go_wp2_with fail
    go_ret
    exact ⟨by rw [HL.out]; rfl, Below.refl _ _⟩
  have HJ := hid hj
  by_cases hn : 0 ≤ n ∧ n ≤ 2147483647
  case neg =>
    have HL := hid (show mapB n k j = [] by rw [mapB, if_neg hz, if_neg (fun h => hn h.2.2)])
    clear hk hj hz
    by_cases n0 : n < 0
    · clear hn
      go_enter Try.func64, Try.ntmps64
      go_wp2_with fail
      refine (ris_any k _ h0 h1).mono ?_; rintro e w2 ⟨rfl, rfl⟩
      rw [HK.out]
      go_wp2_with fail
      refine (ris_any j _ g0 g1).mono ?_; rintro e w2 ⟨rfl, rfl⟩
      rw [HJ.out]
      go_wp2_with fail
      go_ret
      exact ⟨by rw [HL.out]; rfl, Below.refl _ _⟩
    · have n1 : 2147483647 < n := by omega
      clear hn
      go_enter Try.func64, Try.ntmps64
      go_wp2_with fail
      refine (ris_any k _ h0 h1).mono ?_; rintro e w2 ⟨rfl, rfl⟩
      rw [HK.out]
      go_wp2_with fail
      refine (ris_any j _ g0 g1).mono ?_; rintro e w2 ⟨rfl, rfl⟩
      rw [HJ.out]
      go_wp2_with fail
      go_ret
      exact ⟨by rw [HL.out]; rfl, Below.refl _ _⟩
  obtain ⟨q0, q1⟩ : 1 ≤ k ∧ k ≤ 12 := by simpa [isK] using hk
  obtain ⟨r0, r1⟩ : 1 ≤ j ∧ j ≤ 12 := by simpa [isK] using hj
  have HL := hid (show mapB n k j = varB 9 n ++ [bt (k * 16 + j)] by rw [mapB, if_neg hz, if_pos ⟨hk, hj, hn.1, hn.2⟩])
  obtain ⟨n0, n1⟩ := hn
  have nn0 : ¬ n < 0 := by omega
  have nn1 : ¬ 2147483647 < n := by omega
  have hw2 : IntKind.u8.wrap (16 * k) = 16 * k := by rw [IntKind.wrap_u8]; omega
  have hw3 : 16 * k % 256 = 16 * k := by omega
  have hw4 : IntKind.u8.wrap (16 * k + j) = 16 * k + j := by rw [IntKind.wrap_u8]; omega
  have hw5 : (16 * k + j) % 256 = 16 * k + j := by omega
  have hw6 : IntKind.u64.wrap n = n := by rw [IntKind.wrap_u64]; omega
  have hlen := varB_len_le 9 10 n (by omega) (by omega) (by omega)
  clear hk hj hz
  go_enter Try.func64, Try.ntmps64
  go_wp2_with fail
  refine (ris_any k _ h0 h1).mono ?_; rintro e w2 ⟨rfl, rfl⟩
  rw [HK.out]
  go_wp2_with fail
  refine (ris_any j _ g0 g1).mono ?_; rintro e w2 ⟨rfl, rfl⟩
  rw [HJ.out]
  go_wp2_with fail
  refine (rvput_any 9 n _ (by omega) (by omega) (by omega) (by omega)).mono ?_; rintro e w3 ⟨rfl, hb3⟩
  go_wp2_with fail
  refine (rbyte1_any (16 * k + j) _ (by omega) (by omega)).mono ?_; rintro e w2 ⟨rfl, hb2⟩
  go_wp2_with fail
  go_ret
  exact ⟨by rw [HL.out, Int.mul_comm k 16]; rfl, ext_trans hb3 hb2⟩
set_option maxRecDepth 100000 in
set_option maxHeartbeats 1000000 in
theorem rputfield_any (last id k : Int) (w : World) (h0 : 0 ≤ k) (h1 : k ≤ 255) :
    Calls Try.prog 62 #[.int .i64 last, .int .i64 id, .int .u8 k] w fun e w' => e = .returned (Sv (fieldB last id k)) ∧ Below w.heap.size w w' := by
  by_cases hk : isK k = true
  case neg =>
    have HL := hid (show fieldB last id k = [] by rw [fieldB, if_neg (fun h => hk h.1)])
    have HK := hid (show isK k = false by simpa using hk)
    clear hk
    go_enter Try.func62, Try.ntmps62
    go_wp2_with fail
    refine (ris_any k _ h0 h1).mono ?_; rintro e w2 ⟨rfl, rfl⟩
    rw [HK.out]
    go_wp2_with fail
    go_ret
    exact ⟨by rw [HL.out]; rfl, Below.refl _ _⟩
  have HK := hid hk
  obtain ⟨q0, q1⟩ : 1 ≤ k ∧ k ≤ 12 := by simpa [isK] using hk
  by_cases hi : inR id = true
  case neg =>
    have HI := hid (show inR id = false by simpa using hi)
    have HL := hid (show fieldB last id k = [] by rw [fieldB, if_neg (fun h => hi (decide_eq_true h.2))])
    clear hk hi
    go_enter Try.func62, Try.ntmps62
    go_wp2_with fail
    refine (ris_any k _ h0 h1).mono ?_; rintro e w2 ⟨rfl, rfl⟩
    rw [HK.out]
    go_wp2_with fail
    refine (rnumb_any id _).mono ?_; rintro e w2 ⟨rfl, rfl⟩
    rw [HI.out]
    go_wp2_with fail
    go_ret
    exact ⟨by rw [HL.out]; rfl, Below.refl _ _⟩
  have HI := hid hi
  obtain ⟨i0, i1⟩ : -32768 ≤ id ∧ id ≤ 32767 := of_decide_eq_true hi
  by_cases hc : -32768 ≤ last ∧ last < id ∧ id - last ≤ 15
  · have HL := hid (show fieldB last id k = [bt ((id - last) * 16 + k)] by rw [fieldB, if_pos ⟨hk, i0, i1⟩, if_pos hc])
    obtain ⟨c0, c1, c2⟩ := hc
    clear hk hi
    go_enter Try.func62, Try.ntmps62
    go_wp2_with fail
    refine (ris_any k _ h0 h1).mono ?_; rintro e w2 ⟨rfl, rfl⟩
    rw [HK.out]
    go_wp2_with fail
    refine (rnumb_any id _).mono ?_; rintro e w2 ⟨rfl, rfl⟩
    rw [HI.out]
    go_wp2_with fail
    go_loop [7] (fun i => ∃ j : Nat, 1 ≤ j ∧ (j : Int) ≤ id - last ∧ i = .int .i64 (j : Int)) (fun i => 16 - (intOf i).toNat)
    case atStart => exact ⟨1, by omega, by omega, rfl⟩
    case round =>
      obtain ⟨j, j1, j2, rfl⟩ := hrel
      have hwr : IntKind.i64.wrap (id - (j : Int)) = id - j := by rw [IntKind.wrap_i64]; omega
      by_cases hj : last = id - j
      · have e1 : (last == id - (j : Int)) = true := by simpa using hj
        have hw1 : IntKind.i64.wrap (16 * (j : Int)) = 16 * (j : Int) := by rw [IntKind.wrap_i64]; omega
        have hw2 : IntKind.u8.wrap (16 * (j : Int)) = 16 * (j : Int) := by rw [IntKind.wrap_u8]; omega
        have hw3 : 16 * (j : Int) % 256 = 16 * (j : Int) := by omega
        have hw4 : IntKind.u8.wrap (16 * (j : Int) + k) = 16 * (j : Int) + k := by rw [IntKind.wrap_u8]; omega
        have hw5 : (16 * (j : Int) + k) % 256 = 16 * (j : Int) + k := by omega
        have hx : (id - last) * 16 + k = 16 * (j : Int) + k := by omega
        have HX := hid hx
        clear hx hj
        go_wp2_with fail
        refine (rbyte1_any (16 * (j : Int) + k) _ (by omega) (by omega)).mono ?_; rintro e w2 ⟨rfl, hb2⟩
        go_wp2_with fail
        go_ret
        exact ⟨by rw [HL.out, HX.out]; rfl, hb2⟩
      · have e1 : (last == id - (j : Int)) = false := by simpa using hj
        go_wp2_with fail
        go_round
        case rel => exact ⟨j + 1, by omega, by omega, by go_num⟩
        case measure => simp [intOf] <;> omega
  · obtain ⟨z0, z1⟩ := zigV_bd id (by omega) (by omega)
    have HL := hid (show fieldB last id k = [bt k] ++ varB 9 (zigV id) by rw [fieldB, if_pos ⟨hk, i0, i1⟩, if_neg hc]; rfl)
    have HC := hid hc
    have hlen := varB_len_le 9 10 (zigV id) (by omega) (by omega) (by omega)
    clear hk hi hc
    go_enter Try.func62, Try.ntmps62
    go_wp2_with fail
    refine (ris_any k _ h0 h1).mono ?_; rintro e w2 ⟨rfl, rfl⟩
    rw [HK.out]
    go_wp2_with fail
    refine (rnumb_any id _).mono ?_; rintro e w2 ⟨rfl, rfl⟩
    rw [HI.out]
    go_wp2_with fail
    go_loop [7] (fun i => ∃ j : Nat, 1 ≤ j ∧ j ≤ 16 ∧ i = .int .i64 (j : Int)) (fun i => 16 - (intOf i).toNat)
    case atStart => exact ⟨1, by omega, by omega, rfl⟩
    case round =>
      obtain ⟨j, j1, j2, rfl⟩ := hrel
      have hwr : IntKind.i64.wrap (id - (j : Int)) = id - j := by rw [IntKind.wrap_i64]; omega
      by_cases hlt : j ≤ 15
      · by_cases hl : last < -32768
        · go_wp2_with fail
          go_round
          case rel => exact ⟨j + 1, by omega, by omega, by go_num⟩
          case measure => simp [intOf] <;> omega
        · have hj : last ≠ id - j := fun h => HC.out ⟨by omega, by omega, by omega⟩
          have e1 : (last == id - (j : Int)) = false := by simpa using hj
          clear hj
          go_wp2_with fail
          go_round
          case rel => exact ⟨j + 1, by omega, by omega, by go_num⟩
          case measure => simp [intOf] <;> omega
      · go_wp2_with fail
        refine (rbyte1_any k _ (by omega) (by omega)).mono ?_; rintro e w2 ⟨rfl, hb2⟩
        go_wp2_with fail
        refine (rzig_any id _ (by omega) (by omega)).mono ?_; rintro e w3 ⟨rfl, rfl⟩
        go_wp2_with fail
        refine (rvput_any 9 (zigV id) _ (by omega) (by omega) (by omega) (by omega)).mono ?_; rintro e w3 ⟨rfl, hb3⟩
        go_wp2_with fail
        go_ret
        exact ⟨by rw [HL.out]; rfl, ext_trans hb2 hb3⟩
end Go.Proofs.Ytdjbgojdkaipfaa
