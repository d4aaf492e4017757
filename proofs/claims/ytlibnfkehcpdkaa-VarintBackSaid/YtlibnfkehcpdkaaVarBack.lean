/-
  The law VarintBack: its walk.
-/
import Derived.Test.YtlibnfkehcpdkaaVarLaw
import Derived.Deep.RegionHeld3
namespace Go.Proofs.Ytlibnfkehcpdkaa
open Go.RowKit

theorem Reads.cut1 {w : World} {B n : Nat} {A : Option Addr} {xs : List Value} (h : Reads w B 1 A n xs) {k c : Nat} (hk : k ≤ n) (hc : n ≤ c) :
    Reads w B 1 (if c = k then A else A.map (·.add (k * 1))) (n - k) (xs.drop k) := by
  obtain ⟨h1, h2⟩ := h
  refine ⟨by rw [List.length_drop, h1]; omega, fun hn => ?_⟩
  obtain ⟨ad, rfl, hb, hcell⟩ := h2 (by omega)
  rw [if_neg (by omega)]
  refine ⟨ad.add (k * 1), rfl, by rw [block_of_add]; exact hb, fun j u hu => ?_⟩
  rw [add_of_add]
  exact hcell _ u (by rw [← hu, List.getElem?_drop, Nat.mul_one])
theorem Bs.cut {w : World} {B : Nat} {A : Option Addr} {c : Nat} {l : List UInt8} (h : Bs w B (.slice A l.length c) l) (hc : l.length ≤ c) (k : Nat) (hk : k ≤ l.length) :
    Bs w B (.slice (if c = k then A else A.map (·.add (k * 1))) (l.length - k) (c - k)) (l.drop k) := by
  obtain ⟨A', c', e, hlc, hr⟩ := h
  injection e with e1 e2 e3
  subst e1 e3
  refine ⟨_, _, by rw [List.length_drop], by rw [List.length_drop]; omega, ?_⟩
  have h := Reads.cut1 hr (k := k) (c := c) hk hc
  rw [List.length_drop]
  simpa [b8s, List.map_drop] using h
set_option maxRecDepth 100000 in
set_option maxHeartbeats 4000000 in
theorem varintBack_any (p : List UInt8) (n : Int) (r : List UInt8) (w : World) (hp : p.length ≤ 140737488351232) (hr : r.length ≤ 140737488351232) (h0 : 0 ≤ n) (h1 : n ≤ 18446744073709551615) :
    Calls Try.prog 9 #[Sv p, .int .u64 n, Sv r] w fun e w' => e = .returned (.bool true) ∧ Below w.heap.size w w' := by
  have hlen := varB_len_le 9 10 n (by omega) (by omega) (by omega)
  obtain ⟨hR1, hR2, hR3⟩ := varB_read n r h0 h1
  have hS : shortB (varB 9 n) = true := by
    obtain ⟨q1, q2, q3⟩ := varB_read n [] h0 h1
    rw [List.append_nil] at q1 q2 q3
    unfold shortB
    rw [q3, decide_eq_true rfl, Bool.and_true, decide_eq_true_iff, vfin_whole]
    exact ⟨q2, q1⟩
  have HR1 := hid hR1
  have HR2 := hid hR2
  have HR3 := hid hR3
  have HS := hid hS
  clear hR1 hR2 hR3 hS
  go_enter Try.func9, Try.ntmps9
  go_wp2_with (refine wpList_to_bytes rfl _ rfl p rfl ?_; intro v1 w1 hv1 hb1)
  refine (vput_any _ p n _ hv1 h0 h1 (by omega)).mono ?_; rintro e w2 ⟨v, rfl, hown, hb2⟩
  have hbw := hid (ext_trans hb1 hb2)
  obtain ⟨A, c, rfl, hlc, hrd⟩ := hown.bs
  have hBs : Bs w2 w2.heap.size (.slice A (p ++ varB 9 n).length c) (p ++ varB 9 n) := hown.bs
  have HK : Hid (∀ u, Below w2.heap.size w2 u → (convert 30 9 (.slice A (p ++ varB 9 n).length c)).run Try.prog u = .ok (Sv (p ++ varB 9 n)) u) := hid (fun u hu => run_to_string (hBs.below hu))
  have HCUT := hid (fun u (hu : Below w2.heap.size w2 u) => run_to_string ((hBs.below hu).cut hlc p.length (by simp)))
  have hdr : (p ++ varB 9 n).drop p.length = varB 9 n := by simp
  rw [hdr] at HCUT
  rw [List.length_append] at HK HCUT hlc
  have hpos := varB_pos 9 n
  have hcne : ¬ c = p.length := by omega
  rw [if_neg hcne, Nat.mul_one, show p.length + (varB 9 n).length - p.length = (varB 9 n).length by omega] at HCUT
  clear hown hBs hrd hb1 hb2 hv1 hdr
  generalize hRR : varB 9 n = R at *
  have HRR := hid hRR
  clear hRR
  have hwr : IntKind.i64.wrap ((p.length : Int) + (R.length : Int) - (p.length : Int)) = (R.length : Int) := by rw [IntWalk.i64_in _ (by omega)]; omega
  have hsum : ¬ (9223372036854775807 < p.length + R.length) := by omega
  have heq : (p ++ R == p ++ R) = true := by simp
  have kd := HK.out _ (Below.refl w2.heap.size w2).drew
  have k0 := HK.out _ (Below.refl w2.heap.size w2)
  clear hlc
  go_wp2_with fail
  go_region_held3 (fun u => (convert 30 9 (.slice A (p.length + R.length) c)).run Try.prog u = .ok (Sv (p ++ R)) u ∧ Below w2.heap.size w2 u)
    ((go_split_ands; refine ⟨HK.out _ ?_, ?_⟩ <;> first | assumption | exact Below.drew (by assumption) | exact Below.drew (Below.refl _ _) | exact Below.refl _ _ | exact Below.trans (by assumption) (Below.mono hb' (Below.size (by assumption)))))
    (first
      | (go_at_call 38; go_split_ands; refine (rvput_any 9 n _ (by omega) h0 h1 (by omega)).mono ?_; rintro e w' ⟨rfl, hb'⟩; rw [HRR.out])
      | (go_at_call 39; go_split_ands; refine (vsize_any n _ h0 h1).mono ?_; rintro e w' ⟨rfl, rfl⟩; rw [HRR.out]))
  go_split_ands
  have HB := hid (show Below w2.heap.size w2 w' by assumption)
  have hcut := HCUT.out w' HB.out
  have hsum2 : ¬ (9223372036854775807 < R.length + r.length) := by omega
  go_wp2_with fail
  refine (new_any (R ++ r) _ (by rw [List.length_append]; omega)).mono ?_; rintro e w3 ⟨b, rfl, hb3, hc3, hw3⟩
  have hbw2 : w2.heap.size ≤ b := Nat.le_trans HB.out.size hb3
  have B3 := hid (HB.out.trans (hw3.mono HB.out.size))
  have hff : (Cu.start (R ++ r)).fit := Cu.start_fit (by rw [List.length_append]; omega)
  go_wp2_with fail
  refine (vread_any b _ _ hc3 hff).mono ?_; rintro e w4 ⟨c', u, rfl, hv4, hc4, hg4⟩
  have B4 := hid (below_only B3.out hg4 B3.out.size hbw2)
  have ha := start_ahead (R ++ r)
  obtain ⟨rfl, hu⟩ := hv4.is_ok rfl (by rw [ha]; exact HR2.out)
  rw [ha, HR3.out] at hu
  subst hu
  have hpos4 : ({ Cu.start (R ++ r) with pos := (Cu.start (R ++ r)).pos + vlen 10 (Cu.start (R ++ r)).ahead } : Cu) = { s := R ++ r, pos := R.length, en := R.length + r.length, code := 0 } := by
    rw [ha, HR1.out]; simp [Cu.start]
  have hf4 := hv4.fit
  rw [hpos4] at hc4 hf4
  have heu : (u == u) = true := by simp
  have hcut4 := HCUT.out w4 B4.out
  clear hv4 hc3 hw3 hg4 ha hpos4
  go_wp2_with fail
  refine (err_any b _ _ hc4).mono ?_; rintro e w5 ⟨rfl, rfl⟩
  go_wp2_with fail
  refine (left_any b _ _ hc4 hf4).mono ?_; rintro e w6 ⟨rfl, m6, rfl⟩
  have hcut6 := HCUT.out _ (below_drewN B4.out m6)
  have hlf : ((R.length + r.length : Nat) : Int) - (R.length : Int) = (r.length : Int) := by omega
  simp only [hlf]
  go_wp2_with fail
  refine (vshort_any R _ (by omega)).mono ?_; rintro e w7 ⟨rfl, hw7⟩
  rw [HS.out]
  go_wp2_with fail
  refine (vworks_any _).mono ?_; rintro e w8 ⟨rfl, hw8⟩
  go_wp2_with fail
  go_ret
  exact ⟨rfl, hbw.out.trans (((below_drewN B4.out m6).trans ((hw7.trans (hw8.mono hw7.size)).mono (below_drewN B4.out m6).size)).mono hbw.out.size)⟩
end Go.Proofs.Ytlibnfkehcpdkaa
