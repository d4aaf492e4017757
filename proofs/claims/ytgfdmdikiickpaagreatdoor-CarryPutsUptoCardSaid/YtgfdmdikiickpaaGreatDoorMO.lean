/-
  Texts for the laws of this seat, merged: CarryP.
-/
import Derived.Test.YtgfdmdikiickpaaGreatDoorMA
import Derived.Test.YtgfdmdikiickpaaGreatDoorMM
import Derived.Test.YtgfdmdikiickpaaGreatDoorMN
/-! CarryP -/
namespace Go.Proofs.YtgfdmdikiickpaaGreatDoor
open Go.RowKit

set_option maxRecDepth 100000 in
set_option maxHeartbeats 16000000 in
theorem carryPuts_any (t x p : List UInt8) (k : Int) (A : Option Addr) (cap : Nat) (L : List Mb) (style : Int) (w : World) (hok : Okc t x p) (hM : Mbs w w.heap.size A L) (hsz : sizeM L ≤ 1000000000000) :
    Calls Tryz.prog 4 #[Cv t x p k, .slice A L.length cap, .int .i64 style] w fun e w' => e = .returned (.bool true) ∧ Below w.heap.size w w' := by
  have HOK := hid hok
  have HMM := hid hM
  have hF0 : Frm w _ [(w.heap.size, 31, (cc t x p k).toArray)] := (Frm.start w).new 31 (cc t x p k).toArray rfl
  obtain ⟨W1, hW⟩ : ∃ W1, w.alloc (.cells (cc t x p k).toArray 31) = W1 := ⟨_, rfl⟩
  rw [hW] at hF0
  have HF := hid hF0
  have HW := hid hW
  clear hF0 hW
  by_cases hl : 60 < L.length
  · have hl2 : (60 : Int) < (L.length : Int) := by omega
    clear hok hM
    go_enter Tryz.func4, Tryz.ntmps4
    go_upto_region 1 with fail
    rw [HW.out]
    clear HW
    go_wp2_with (go_at_call 6; refine (hworks46_any _).mono ?_; rintro e w1 ⟨rfl, hb1⟩; have HF1 := hid (HF.out.call hb1); clear hb1)
    go_ret
    exact ⟨rfl, HF1.out.bel⟩
  have hl3 : L.length ≤ 60 := by omega
  obtain ⟨R, hR⟩ : ∃ R, injR t x p k L style = R := ⟨_, rfl⟩
  have hRl := injR_len t x p k L style
  have HOWN := hid (fun u (hu : Below w.heap.size w u) => own44_any A cap L u ((HMM.out.below hu).mono_ hu.size) (by omega))
  have hinj := fun A1 c1 u (hu : Mbs u u.heap.size A1 L) => cinject_any t x p k A1 c1 L style u hok hu (by omega) hsz
  have hri := fun u (hu : Below w.heap.size w u) => rinject_any t x p k A cap L style u hok ((HMM.out.below hu).mono_ hu.size) (by omega) hsz
  simp only [hR] at hinj hri
  rw [hR] at hRl
  have HINJ := hid hinj
  have HRI := hid hri
  have HBK := hid (fun A1 c1 u (hu : Mbs u u.heap.size A1 R) => backh_any A1 c1 R u hu (by omega))
  have hsm := fun A1 c1 A2 c2 u (h1 : Mbs u u.heap.size A1 R) (h2 : Mbs u u.heap.size A2 R) => rsameh_any A1 A2 c1 c2 R R u h1 h2 (by omega)
  rw [show decide (R = R) = true by simp] at hsm
  have HSM := hid hsm
  clear hinj hri hsm hR hok hM hl hsz hRl
  go_enter Tryz.func4, Tryz.ntmps4
  go_upto_region 1 with fail
  rw [HW.out]
  clear HW
  go_upto_region 3 with fail
  refine wp_region_held_drew (S := fun u => (Instr.loadAt 31 (.pointer (some ⟨w.heap.size, 0, none⟩))).run Tryz.prog u = .ok (Cv t x p k) u) (by kernel_rfl) (HF.out.drew.loadCv 0 rfl HOK.out) (fun hS0 => ?_)
  have HF0 := hid (HF.out.drew)
  generalize W1.drew = u0 at HF0 hS0 ⊢
  clear HF
  refine held_step (i := 0) (some 11) (v := _) (by rfl) (by kernel_rfl) (by kernel_rfl) (by kernel_rfl) (fun _ _ _ h => h) (fun o ho => by (simp only [List.getElem?_toArray, List.getElem?_cons_zero, List.getElem?_cons_succ, Option.some.injEq] at ho; subst ho; exact Or.inl ⟨by rfl, fun u hSu => run_load_of rfl hSu⟩)) (by assumption) ?_
  try simp only [Act.put, List.setIfInBounds_toArray, List.set_cons_zero, List.set_cons_succ]
  refine held_step (i := 1) (some 12) (v := ?hv1) (by rfl) (by kernel_rfl) (by kernel_rfl) (by kernel_rfl) (fun _ _ _ h => h) ?hy1 (by assumption) ?hr1
  case hy1 => (intro o ho; simp only [List.getElem?_toArray, List.getElem?_cons_zero, List.getElem?_cons_succ, Option.some.injEq] at ho; subst ho; refine Or.inl ⟨by rfl, fun u hSu => ?_⟩; clear hSu; go_simp; with_reducible rfl)
  try simp only [Act.put, List.setIfInBounds_toArray, List.set_cons_zero, List.set_cons_succ]
  refine held_step (i := 3) (some 14) (v := ?hv2) (by rfl) (by kernel_rfl) (by kernel_rfl) (by kernel_rfl) (fun _ _ _ h => h) ?hy2 (by assumption) ?hr2
  case hy2 => (intro o ho; simp only [List.getElem?_toArray, List.getElem?_cons_zero, List.getElem?_cons_succ, Option.some.injEq] at ho; subst ho; refine Or.inl ⟨by rfl, fun u hSu => ?_⟩; clear hSu; go_simp; with_reducible rfl)
  try simp only [Act.put, List.setIfInBounds_toArray, List.set_cons_zero, List.set_cons_succ]
  refine held_step (i := 6) (some 17) (v := _) (by rfl) (by kernel_rfl) (by kernel_rfl) (by kernel_rfl) (fun _ _ _ h => h) (fun o ho => by (simp only [List.getElem?_toArray, List.getElem?_cons_zero, List.getElem?_cons_succ, Option.some.injEq] at ho; subst ho; exact Or.inl ⟨by rfl, fun u hSu => run_load_of rfl hSu⟩)) (by assumption) ?_
  try simp only [Act.put, List.setIfInBounds_toArray, List.set_cons_zero, List.set_cons_succ]
  refine held_step (i := 7) (some 18) (v := ?hv3) (by rfl) (by kernel_rfl) (by kernel_rfl) (by kernel_rfl) (fun _ _ _ h => h) ?hy3 (by assumption) ?hr3
  case hy3 => (intro o ho; simp only [List.getElem?_toArray, List.getElem?_cons_zero, List.getElem?_cons_succ, Option.some.injEq] at ho; subst ho; refine Or.inl ⟨by rfl, fun u hSu => ?_⟩; clear hSu; go_simp; with_reducible rfl)
  try simp only [Act.put, List.setIfInBounds_toArray, List.set_cons_zero, List.set_cons_succ]
  refine held_step (i := 8) (some 19) (v := ?hv4) (by rfl) (by kernel_rfl) (by kernel_rfl) (by kernel_rfl) (fun _ _ _ h => h) ?hy4 (by assumption) ?hr4
  case hy4 => (intro o ho; simp only [List.getElem?_toArray, List.getElem?_cons_zero, List.getElem?_cons_succ, Option.some.injEq] at ho; subst ho; refine Or.inl ⟨by rfl, fun u hSu => ?_⟩; clear hSu; go_simp; with_reducible rfl)
  try simp only [Act.put, List.setIfInBounds_toArray, List.set_cons_zero, List.set_cons_succ]
  refine wpAnyH_ready (rs := [2]) (by kernel_rfl) (by simp) ?_
  refine AllReadyH.cons rfl (fun K hK => ?_) AllReadyH.nil
  rw [if_pos (by rfl)]
  go_simp
  refine (HOWN.out u0 HF0.out.bel).mono ?_; rintro e u1 ⟨v13, rfl, ho, hb⟩
  have HO13_1 := hid ho
  obtain ⟨A13, c13, hv⟩ := HO13_1.out.len
  subst hv
  have HF1 := hid (HF0.out.call hb)
  clear hb ho
  refine hK.out _ _ (HF1.out.loadCv 0 rfl HOK.out) (fun hS1 => ?_)
  clear hK
  try simp only [Act.put, List.setIfInBounds_toArray, List.set_cons_zero, List.set_cons_succ]
  refine wpAnyH_ready (rs := [4]) (by kernel_rfl) (by simp) ?_
  refine AllReadyH.cons rfl (fun K hK => ?_) AllReadyH.nil
  rw [if_pos (by rfl)]
  go_simp
  refine (HINJ.out A13 c13 u1 (HO13_1.out.mbs_)).mono ?_; rintro e u2 ⟨v15, rfl, ho, hb⟩
  have HO15_2 := hid ho
  obtain ⟨A15, c15, hv⟩ := HO15_2.out.len
  subst hv
  have HF2 := hid (HF1.out.call hb)
  have HO13_2 := hid (HO13_1.out.ext hb)
  clear hb ho
  refine hK.out _ _ (HF2.out.loadCv 0 rfl HOK.out) (fun hS2 => ?_)
  clear hK
  try simp only [Act.put, List.setIfInBounds_toArray, List.set_cons_zero, List.set_cons_succ]
  refine wpAnyH_ready (rs := [5]) (by kernel_rfl) (by simp) ?_
  refine AllReadyH.cons rfl (fun K hK => ?_) AllReadyH.nil
  rw [if_pos (by rfl)]
  go_simp
  refine (HBK.out A15 c15 u2 (HO15_2.out.mbs_)).mono ?_; rintro e u3 ⟨v16, rfl, ho, hb⟩
  have HO16_3 := hid ho
  obtain ⟨A16, c16, hv⟩ := HO16_3.out.len
  subst hv
  have HF3 := hid (HF2.out.call hb)
  have HO13_3 := hid (HO13_2.out.ext hb)
  have HO15_3 := hid (HO15_2.out.ext hb)
  clear hb ho
  refine hK.out _ _ (HF3.out.loadCv 0 rfl HOK.out) (fun hS3 => ?_)
  clear hK
  try simp only [Act.put, List.setIfInBounds_toArray, List.set_cons_zero, List.set_cons_succ]
  refine wpAnyH_ready (rs := [9]) (by kernel_rfl) (by simp) ?_
  refine AllReadyH.cons rfl (fun K hK => ?_) AllReadyH.nil
  rw [if_pos (by rfl)]
  go_simp
  refine (HRI.out u3 HF3.out.bel).mono ?_; rintro e u4 ⟨v20, rfl, ho, hb⟩
  have HO20_4 := hid ho
  obtain ⟨A20, c20, hv⟩ := HO20_4.out.len
  subst hv
  have HF4 := hid (HF3.out.call hb)
  have HO13_4 := hid (HO13_3.out.ext hb)
  have HO15_4 := hid (HO15_3.out.ext hb)
  have HO16_4 := hid (HO16_3.out.ext hb)
  clear hb ho
  refine hK.out _ _ (HF4.out.loadCv 0 rfl HOK.out) (fun hS4 => ?_)
  clear hK
  try simp only [Act.put, List.setIfInBounds_toArray, List.set_cons_zero, List.set_cons_succ]
  refine wpAnyH_ready (rs := [10]) (by kernel_rfl) (by simp) ?_
  refine AllReadyH.cons rfl (fun K hK => ?_) AllReadyH.nil
  rw [if_pos (by rfl)]
  go_simp
  refine (HSM.out A16 c16 A20 c20 u4 (HO16_4.out.mbs_) (HO20_4.out.mbs_)).mono ?_; rintro e u5 ⟨rfl, hb⟩
  have HF5 := hid (HF4.out.call hb)
  have HO13_5 := hid (HO13_4.out.ext hb)
  have HO15_5 := hid (HO15_4.out.ext hb)
  have HO16_5 := hid (HO16_4.out.ext hb)
  have HO20_5 := hid (HO20_4.out.ext hb)
  clear hb
  refine hK.out _ _ (HF5.out.loadCv 0 rfl HOK.out) (fun hS5 => ?_)
  clear hK
  try simp only [Act.put, List.setIfInBounds_toArray, List.set_cons_zero, List.set_cons_succ]
  refine held_step (i := 11) (some 22) (v := ?hv5) (by rfl) (by kernel_rfl) (by kernel_rfl) (by kernel_rfl) (fun _ _ _ h => h) ?hy5 (by assumption) ?hr5
  case hy5 => (intro o ho; simp only [List.getElem?_toArray, List.getElem?_cons_zero, List.getElem?_cons_succ, Option.some.injEq] at ho; subst ho; refine Or.inl ⟨by rfl, fun u hSu => ?_⟩; clear hSu; go_simp; with_reducible rfl)
  try simp only [Act.put, List.setIfInBounds_toArray, List.set_cons_zero, List.set_cons_succ]
  refine wpAnyH_ready (rs := [12]) (by kernel_rfl) (by simp) ?_
  refine AllReadyH.cons rfl (fun K hK => ?_) AllReadyH.nil
  rw [if_pos (by rfl)]
  go_simp
  refine (hworks46_any u5).mono ?_; rintro e u6 ⟨rfl, hb⟩
  have HF6 := hid (HF5.out.call hb)
  have HO13_6 := hid (HO13_5.out.ext hb)
  have HO15_6 := hid (HO15_5.out.ext hb)
  have HO16_6 := hid (HO16_5.out.ext hb)
  have HO20_6 := hid (HO20_5.out.ext hb)
  clear hb
  refine hK.out _ _ (HF6.out.loadCv 0 rfl HOK.out) (fun hS6 => ?_)
  clear hK
  try simp only [Act.put, List.setIfInBounds_toArray, List.set_cons_zero, List.set_cons_succ]
  refine held_step (i := 13) (some 24) (v := ?hv6) (by rfl) (by kernel_rfl) (by kernel_rfl) (by kernel_rfl) (fun _ _ _ h => h) ?hy6 (by assumption) ?hr6
  case hy6 => (intro o ho; simp only [List.getElem?_toArray, List.getElem?_cons_zero, List.getElem?_cons_succ, Option.some.injEq] at ho; subst ho; refine Or.inl ⟨by rfl, fun u hSu => ?_⟩; clear hSu; go_simp; with_reducible rfl)
  try simp only [Act.put, List.setIfInBounds_toArray, List.set_cons_zero, List.set_cons_succ]
  refine held_step (i := 14) (some 6) (v := ?hv7) (by rfl) (by kernel_rfl) (by kernel_rfl) (by kernel_rfl) (fun _ _ _ h => h) ?hy7 (by assumption) ?hr7
  case hy7 => (intro o ho; simp only [List.getElem?_toArray, List.getElem?_cons_zero, List.getElem?_cons_succ, Option.some.injEq] at ho; subst ho; refine Or.inl ⟨by rfl, fun u hSu => ?_⟩; clear hSu; go_simp; with_reducible rfl)
  try simp only [Act.put, List.setIfInBounds_toArray, List.set_cons_zero, List.set_cons_succ]
  refine wpAnyH_done (by kernel_rfl) ?_ _
  go_wp2_with fail
  go_ret
  exact ⟨rfl, HF6.out.bel⟩
end Go.Proofs.YtgfdmdikiickpaaGreatDoor
