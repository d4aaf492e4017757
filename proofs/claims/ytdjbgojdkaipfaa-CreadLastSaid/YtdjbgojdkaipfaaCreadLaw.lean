/-
  The laws of chapter 22: works, CreadStructs, CreadItems.
-/
import Derived.Test.YtdjbgojdkaipfaaCreadG
namespace Go.Proofs.Ytdjbgojdkaipfaa
open Go.RowKit

theorem joinS_len (p : Nat) (L : List Fd) (t : Int × Nat × List Fd) : (joinS p L t).2.2.length ≤ L.length + t.2.2.length := by
  unfold joinS
  split
  · show (L ++ t.2.2).length ≤ _; rw [List.length_append]; exact Nat.le_refl _
  · exact Nat.zero_le _
theorem stF_len (m : Nat) : ∀ (n : Nat) (last : Int) (a : List UInt8), (stF m n last a).2.2.length ≤ n
  | 0, _, _ => Nat.le_refl _
  | n + 1, last, a => by
    unfold stF
    split
    · split
      · exact Nat.zero_le _
      · split
        · refine Nat.le_trans (joinS_len _ _ _) ?_
          have := stF_len m n (fieldR last a).2.2.1 ((a.drop (fieldR last a).2.1).drop (valF m (fieldR last a).2.2.2 (a.drop (fieldR last a).2.1)).2)
          rw [List.length_singleton]; omega
        · exact Nat.zero_le _
    · exact Nat.zero_le _
theorem valI_nil (m : Nat) (k : Int) : (valI m k []).1 ≠ 0 := by
  unfold valI
  by_cases hk : k = 1 ∨ k = 2
  · rw [if_pos hk]; show (1 : Int) ≠ 0; decide
  · rw [if_neg hk]
    intro h
    have e := (valF_skip m k []).2 h
    rw [e] at h
    exact skip_nil m k hk h
theorem itF_len (m : Nat) (k : Int) : ∀ (n : Nat) (i : Int) (a : List UInt8), (itF m k n i a).2.2.length ≤ a.length
  | 0, _, _ => Nat.zero_le _
  | n + 1, i, a => by
    unfold itF
    split
    · rename_i h
      refine Nat.le_trans (joinS_len _ _ _) ?_
      have h1 := itF_len m k n (i + 1) (a.drop (valI m k a).2)
      have h2 := valI_pos h
      have h3 : 0 < a.length := by
        rcases Nat.eq_zero_or_pos a.length with q | q
        · obtain rfl := List.eq_nil_of_length_eq_zero q
          exact absurd h (valI_nil m k)
        · exact q
      rw [List.length_drop] at h1
      rw [List.length_singleton]; omega
    · exact Nat.zero_le _
theorem structO_len (s : List UInt8) (deep : Int) : (structO s deep).2.2.length ≤ s.length + 1 := by
  unfold structO
  split
  · exact Nat.zero_le _
  · exact stF_len _ _ _ _
theorem itemsO_len (s : List UInt8) (deep : Int) : (itemsO s deep).2.length ≤ s.length := by
  have h : ∀ m, (listF m s).2.2.length ≤ s.length := fun m => by
    unfold listF
    split
    · refine Nat.le_trans (joinS_len _ _ _) ?_
      have := itF_len m (listR s).2.2.2 (listR s).2.2.1.toNat 0 (s.drop (listR s).2.1)
      rw [List.length_drop] at this
      rw [List.length_nil]; omega
    · exact Nat.zero_le _
  unfold itemsO
  split
  · exact Nat.zero_le _
  · split
    · split
      · exact Nat.zero_le _
      · exact h _
    · exact Nat.zero_le _
set_option maxRecDepth 100000 in
set_option maxHeartbeats 4000000 in
theorem crworks_any (w : World) :
    Calls Try.prog 79 #[] w fun e w' => e = .returned (.bool true) ∧ Below w.heap.size w w' := by
  have S1 := hid (show structO [22, 10, 0, 120] 0 = (0, 3, [⟨1, 6, 5, 0, [], []⟩]) by decide +kernel)
  have S2 := hid (show itemsO [33, 1, 2] 0 = (0, [⟨0, 1, 1, 0, [], []⟩, ⟨1, 2, 0, 0, [], []⟩]) by decide +kernel)
  have S3 := hid (show structO [0] 32 = (33, 0, []) by decide +kernel)
  have S4 := hid (show lastF 1 6 [⟨1, 6, 5, 0, [], []⟩] = (⟨1, 6, 5, 0, [], []⟩, true) by decide +kernel)
  go_enter Try.func79, Try.ntmps79
  go_wp2_with fail
  refine (cstruct_any [22, 10, 0, 120] 0 _ (by decide) (by decide) (by decide)).mono ?_; rintro e w1 ⟨v, rfl, ho1, hb1⟩
  rw [S1.out] at ho1 ⊢
  rcases ownF_form ho1 with ⟨h, _⟩ | ⟨g, cap, rfl, hg⟩
  · cases h
  have O1 := hid ho1
  have B1 := hid hb1
  clear ho1 hb1
  go_wp2_with fail
  refine (citems_any [33, 1, 2] 0 _ (by decide) (by decide) (by decide)).mono ?_; rintro e w2 ⟨u, rfl, ho2, hb2⟩
  rw [S2.out] at ho2 ⊢
  rcases ownF_form ho2 with ⟨h, _⟩ | ⟨g2, cap2, rfl, hg2⟩
  · cases h
  have O2 := hid ho2
  have O12 := hid (ownF_ext O1.out hb2)
  have B2 := hid (B1.out.trans (hb2.mono B1.out.size))
  clear ho2 hb2 O1 B1
  go_wp2_with fail
  refine (cstruct_any [0] 32 _ (by decide) (by decide) (by decide)).mono ?_; rintro e w3 ⟨x, rfl, ho3, hb3⟩
  rw [S3.out]
  have O13 := hid (ownF_ext O12.out hb3)
  have O23 := hid (ownF_ext O2.out hb3)
  have B3 := hid (B2.out.trans (hb3.mono B2.out.size))
  clear ho3 hb3 O12 O2 B2
  go_wp2_with fail
  refine (clast_any _ [⟨1, 6, 5, 0, [], []⟩] 1 6 _ _ O13.out (by decide)).mono ?_; rintro e w4 ⟨rfl, hb4⟩
  rw [S4.out]
  have O14 := hid (ownF_ext (ownF_ext O13.out hb4) (ext_alloc w4 (.cells #[.int .i64 1, .int .u8 6, .int .i64 5, .int .u64 0, Sv [], Sv []] 121)))
  have O24 := hid (ownF_ext (ownF_ext O23.out hb4) (ext_alloc w4 (.cells #[.int .i64 1, .int .u8 6, .int .i64 5, .int .u64 0, Sv [], Sv []] 121)))
  have hB4 := B3.out.trans (hb4.mono B3.out.size)
  have B4 := hid (hB4.alloc hB4.size (.cells #[.int .i64 1, .int .u8 6, .int .i64 5, .int .u64 0, Sv [], Sv []] 121))
  have F4 := hid (Blk.new w4 121 #[.int .i64 1, .int .u8 6, .int .i64 5, .int .u64 0, Sv [], Sv []])
  clear hb4 hB4 O13 O23 B3
  unfold Fd.cells
  go_upto_region 5 with fail
  generalize w4.alloc (.cells #[.int .i64 1, .int .u8 6, .int .i64 5, .int .u64 0, Sv [], Sv []] 121) = W4 at O14 O24 B4 F4 ⊢
  obtain ⟨p0, p1, p2, p3, p4, p5, _⟩ := blk6 F4.out
  obtain ⟨a0, a1, a2, _, _, _⟩ := own_cells O14.out (k := 0) rfl
  obtain ⟨b0, b1, b2, _, _, _⟩ := own_cells O24.out (k := 0) rfl
  obtain ⟨c0, c1, c2, _, _, _⟩ := own_cells O24.out (k := 1) rfl
  simp only [Nat.zero_mul, Nat.zero_add, Nat.one_mul] at a0 a1 a2 b0 b1 b2 c0 c1 c2
  go_wp2_with fail
  go_ret
  exact ⟨rfl, B4.out⟩
set_option maxRecDepth 100000 in
set_option maxHeartbeats 4000000 in
theorem creadStructs_any (s : List UInt8) (deep : Int) (w : World) (q0 : -9223372036854775808 ≤ deep) (q1 : deep ≤ 9223372036854775807) :
    Calls Try.prog 17 #[Sv s, .int .i64 deep] w fun e w' => e = .returned (.bool true) ∧ Below w.heap.size w w' := by
  by_cases q45 : 300 < (s.length : Int)
  · go_enter Try.func17, Try.ntmps17
    go_wp2_with fail
    refine (crworks_any _).mono ?_; rintro e w10 ⟨rfl, hw10⟩
    go_wp2_with fail
    go_ret
    exact ⟨rfl, hw10⟩
  by_cases q19 : deep < 0
  · go_enter Try.func17, Try.ntmps17
    go_wp2_with fail
    refine (crworks_any _).mono ?_; rintro e w10 ⟨rfl, hw10⟩
    go_wp2_with fail
    go_ret
    exact ⟨rfl, hw10⟩
  by_cases q88 : 100 < deep
  · go_enter Try.func17, Try.ntmps17
    go_wp2_with fail
    refine (crworks_any _).mono ?_; rintro e w10 ⟨rfl, hw10⟩
    go_wp2_with fail
    go_ret
    exact ⟨rfl, hw10⟩
  have hlen := structO_len s deep
  have hC := fun u : World => cstruct_any s deep u (by omega) (by omega) (by omega)
  have hR := fun u : World => rstruct_any s deep u (by omega) (by omega) (by omega)
  unfold SPst at hC
  unfold RSPst at hR
  generalize structO s deep = A at hC hR hlen
  obtain ⟨code, n, L⟩ := A
  simp only at hC hR hlen
  have HC := hid hC
  have HR := hid hR
  have i0 : ((n : Int) == (n : Int)) = true := by simp
  have i1 : (code == code) = true := by simp
  clear hC hR
  go_enter Try.func17, Try.ntmps17
  go_wp2_with fail
  refine (HC.out _).mono ?_; rintro e w1 ⟨v, rfl, ho1, hb1⟩
  have O1 := hid ho1
  have B1 := hid hb1
  clear ho1 hb1
  go_wp2_with fail
  refine (HR.out _).mono ?_; rintro e w2 ⟨u, rfl, ho2, hb2⟩
  have O2 := hid ho2
  have O12 := hid (ownF_ext O1.out hb2)
  have B2 := hid (B1.out.trans (hb2.mono B1.out.size))
  clear ho2 hb2 O1 B1
  go_wp2_with fail
  refine (back_any v L _ _ O12.out (by omega)).mono ?_; rintro e w3 ⟨x, rfl, ho3, hb3⟩
  have O3 := hid ho3
  have O23 := hid (ownF_ext O2.out hb3)
  have B3 := hid (B2.out.trans (hb3.mono B2.out.size))
  clear ho3 hb3 O12 O2 B2
  go_wp2_with fail
  refine (same_lists x u L _ _ _ O3.out O23.out (by omega)).mono ?_; rintro e w4 ⟨rfl, hb4⟩
  have B4 := hid (B3.out.trans (hb4.mono B3.out.size))
  clear hb4 O3 O23 B3
  go_wp2_with fail
  refine (crworks_any _).mono ?_; rintro e w10 ⟨rfl, hw10⟩
  go_wp2_with fail
  go_ret
  exact ⟨rfl, B4.out.trans (hw10.mono B4.out.size)⟩
set_option maxRecDepth 100000 in
set_option maxHeartbeats 4000000 in
theorem creadItems_any (s : List UInt8) (deep : Int) (w : World) (q0 : -9223372036854775808 ≤ deep) (q1 : deep ≤ 9223372036854775807) :
    Calls Try.prog 18 #[Sv s, .int .i64 deep] w fun e w' => e = .returned (.bool true) ∧ Below w.heap.size w w' := by
  by_cases q45 : 300 < (s.length : Int)
  · go_enter Try.func18, Try.ntmps18
    go_wp2_with fail
    refine (crworks_any _).mono ?_; rintro e w10 ⟨rfl, hw10⟩
    go_wp2_with fail
    go_ret
    exact ⟨rfl, hw10⟩
  by_cases q19 : deep < 0
  · go_enter Try.func18, Try.ntmps18
    go_wp2_with fail
    refine (crworks_any _).mono ?_; rintro e w10 ⟨rfl, hw10⟩
    go_wp2_with fail
    go_ret
    exact ⟨rfl, hw10⟩
  by_cases q88 : 100 < deep
  · go_enter Try.func18, Try.ntmps18
    go_wp2_with fail
    refine (crworks_any _).mono ?_; rintro e w10 ⟨rfl, hw10⟩
    go_wp2_with fail
    go_ret
    exact ⟨rfl, hw10⟩
  have hlen := itemsO_len s deep
  have hC := fun u : World => citems_any s deep u (by omega) (by omega) (by omega)
  have hR := fun u : World => ritems_any s deep u (by omega) (by omega) (by omega)
  unfold IPst at hC
  unfold RIPst at hR
  generalize itemsO s deep = A at hC hR hlen
  obtain ⟨code, L⟩ := A
  simp only at hC hR hlen
  have HC := hid hC
  have HR := hid hR
  have i1 : (code == code) = true := by simp
  clear hC hR
  go_enter Try.func18, Try.ntmps18
  go_wp2_with fail
  refine (HC.out _).mono ?_; rintro e w1 ⟨v, rfl, ho1, hb1⟩
  have O1 := hid ho1
  have B1 := hid hb1
  clear ho1 hb1
  go_wp2_with fail
  refine (HR.out _).mono ?_; rintro e w2 ⟨u, rfl, ho2, hb2⟩
  have O2 := hid ho2
  have O12 := hid (ownF_ext O1.out hb2)
  have B2 := hid (B1.out.trans (hb2.mono B1.out.size))
  clear ho2 hb2 O1 B1
  go_wp2_with fail
  refine (back_any v L _ _ O12.out (by omega)).mono ?_; rintro e w3 ⟨x, rfl, ho3, hb3⟩
  have O3 := hid ho3
  have O23 := hid (ownF_ext O2.out hb3)
  have B3 := hid (B2.out.trans (hb3.mono B2.out.size))
  clear ho3 hb3 O12 O2 B2
  go_wp2_with fail
  refine (same_lists x u L _ _ _ O3.out O23.out (by omega)).mono ?_; rintro e w4 ⟨rfl, hb4⟩
  have B4 := hid (B3.out.trans (hb4.mono B3.out.size))
  clear hb4 O3 O23 B3
  go_wp2_with fail
  refine (crworks_any _).mono ?_; rintro e w10 ⟨rfl, hw10⟩
  go_wp2_with fail
  go_ret
  exact ⟨rfl, B4.out.trans (hw10.mono B4.out.size)⟩
end Go.Proofs.Ytdjbgojdkaipfaa
