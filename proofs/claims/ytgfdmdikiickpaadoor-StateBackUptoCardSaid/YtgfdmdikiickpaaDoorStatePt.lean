/-
  The law StatePuts.
-/
import Derived.Test.YtgfdmdikiickpaaDoorStateRd
import Derived.Test.YtgfdmdikiickpaaDoorOpenMb
namespace Go.Proofs.YtgfdmdikiickpaaDoor
open Go.RowKit

theorem size_good {M : List Mb} (h : GoodM M) : sizeM M ≤ 32 * (2 * 300) := by
  have hml := h.len
  refine Nat.le_trans (?_ : sizeM M ≤ M.length * (2 * 300)) (Nat.mul_le_mul_right _ hml)
  have key : ∀ m ∈ M, m.1.length ≤ 300 ∧ m.2.length ≤ 300 := fun m hm => good_len (h.all m hm).1 (h.all m hm).2
  clear hml h
  induction M with
  | nil => simp [sizeM]
  | cons m X ih =>
    have i1 := ih (fun x hx => key x (List.mem_cons_of_mem _ hx))
    have i2 := key m (by simp)
    have e2 : sizeM (m :: X) = m.1.length + m.2.length + sizeM X := by simp [sizeM]
    rw [e2, List.length_cons]
    omega
theorem put_len (L : List Mb) (key value : List UInt8) : (putS L key value).1.length ≤ 32 := by
  unfold putS
  split
  · have := (putR_len L key value).2
    exact this
  · simp
set_option maxRecDepth 100000 in
set_option maxHeartbeats 8000000 in
theorem statePuts_any (A : Option Addr) (cap : Nat) (L : List Mb) (key value : List UInt8) (w : World) (h : Mbs w w.heap.size A L) (hm : ∀ m ∈ L, m.1.length ≤ 140737488355328 ∧ m.2.length ≤ 140737488355328) (hk : key.length ≤ 140737488351232) (hv : value.length ≤ 140737488351232) (hsum : sizeM L ≤ L.length * (2 * 140737488355328)) :
    Calls Tryd.prog 8 #[.slice A L.length cap, Sv key, Sv value] w fun e w' => e = .returned (.bool true) ∧ Below w.heap.size w w' := by
  by_cases hl : 60 < L.length
  · have hl2 : (60 : Int) < (L.length : Int) := by omega
    go_enter Tryd.func8, Tryd.ntmps8
    go_wp2_with (go_at_call 19; refine (sworks_any _).mono ?_; rintro e w1 ⟨rfl, hb1⟩)
    go_ret
    exact ⟨rfl, hb1⟩
  have hl3 : L.length ≤ 60 := by omega
  have hsz : sizeM L ≤ 60 * (2 * 140737488355328) := Nat.le_trans hsum (Nat.mul_le_mul_right _ hl3)
  clear hl hm hsum
  have HO := hid h
  clear h
  have ho := fun u (h : Mbs u u.heap.size A L) => own44_any A cap L u h (by omega)
  have hp := fun A' c' u (h : Mbs u u.heap.size A' L) => sput_any A' c' L key value u h (by omega) (by omega) (by omega)
  have hrp := fun u (h : Mbs u u.heap.size A L) => rput44_any A cap L key value u h (by omega) (by omega) (by omega)
  have hg := fun A' c' u (h : Mbs u u.heap.size A' L) => sget_any A' c' L key u h (by omega)
  have hrg := fun u (h : Mbs u u.heap.size A L) => rget44_any A cap L key u h (by omega)
  have htx := fun u (h : Mbs u u.heap.size A L) => rtext44_any A cap L u h (by omega) (by omega)
  have htl := textS_len L
  have hrd := fun u => rread44_any (textS L) u (by omega)
  have HPG := hid (fun (hL : GoodM L) => put_good (L := L) (key := key) (value := value) hL)
  have hNl := put_len L key value
  obtain ⟨N, c, hN⟩ : ∃ N c, putS L key value = (N, c) := ⟨(putS L key value).1, (putS L key value).2, rfl⟩
  rw [hN] at HPG hNl
  simp only [hN] at hp hrp
  obtain ⟨G, hG⟩ : ∃ G, getM L key = G := ⟨_, rfl⟩
  obtain ⟨H, hH⟩ : ∃ H, hasM L key = H := ⟨_, rfl⟩
  simp only [hG, hH] at hg hrg
  have HX := hid (readS_good (s := textS L))
  have HXB := hid (readS_bad (s := textS L))
  have hXl : (readS (textS L)).1.length ≤ 32 := by
    by_cases h0 : (readS (textS L)).2 = 0
    · exact (readS_good h0).len
    · rw [readS_bad h0]; simp
  obtain ⟨X, d, hX⟩ : ∃ X d, readS (textS L) = (X, d) := ⟨(readS (textS L)).1, (readS (textS L)).2, rfl⟩
  rw [hX] at HX HXB hXl
  simp only [hX] at hrd
  simp only at hNl hXl
  clear hN hG hH hX htl
  generalize textS L = TL at htx hrd
  have HP := hid hp
  have HRP := hid hrp
  have HGG := hid hg
  have HRG := hid hrg
  have HTX := hid htx
  have HRD := hid hrd
  have HOW := hid ho
  clear hp hrp hg hrg htx hrd ho
  go_enter Tryd.func8, Tryd.ntmps8
  go_wp2_with fail
  refine (HOW.out w HO.out).mono ?_; rintro e w1 ⟨v1, rfl, ho1, hb1⟩
  have HO1 := hid ho1
  have HB1 := hid hb1
  clear ho1 hb1
  obtain ⟨A1, c1, hv1⟩ := HO1.out.len
  subst hv1
  go_wp2_with fail
  refine (HP.out A1 c1 w1 HO1.out.mbs_).mono ?_; rintro e w2 ⟨v2, rfl, ho2, hb2⟩
  have HO2 := hid ho2
  have HB2 := hid (ext_trans HB1.out hb2)
  clear ho2 hb2
  obtain ⟨A2, c2, hv2⟩ := HO2.out.len
  subst hv2
  go_wp2_with fail
  refine (HRP.out w2 (HO.out.ext HB2.out)).mono ?_; rintro e w3 ⟨v3, rfl, ho3, hb3⟩
  have HO3 := hid ho3
  have HB3 := hid (ext_trans HB2.out hb3)
  have HM2 := hid (HO2.out.mbs_.ext hb3)
  clear ho3 hb3
  obtain ⟨A3, c3, hv3⟩ := HO3.out.len
  subst hv3
  have HM3 := hid (HO3.out.mbs_)
  go_wp2_with fail
  refine (HOW.out w3 (HO.out.ext HB3.out)).mono ?_; rintro e w4 ⟨v4, rfl, ho4, hb4⟩
  have HO4 := hid ho4
  have HR4 := hid hb4
  clear ho4 hb4
  obtain ⟨A4, c4, hv4⟩ := HO4.out.len
  subst hv4
  go_wp2_with fail
  refine (HGG.out A4 c4 w4 HO4.out.mbs_).mono ?_; rintro e w5 ⟨rfl, hb5⟩
  have HR5 := hid (ext_trans HR4.out hb5)
  clear hb5
  go_wp2_with fail
  refine (HRG.out w5 (HO.out.ext (ext_trans HB3.out HR5.out))).mono ?_; rintro e w6 ⟨rfl, rfl⟩
  go_wp2_with fail
  refine (back44_any A2 c2 N _ (HM2.out.ext HR5.out) (by omega)).mono ?_; rintro e w7 ⟨v7, rfl, ho7, hb7⟩
  have HO7 := hid ho7
  have HR7 := hid (ext_trans HR5.out hb7)
  clear ho7 hb7
  obtain ⟨A7, c7, hv7⟩ := HO7.out.len
  subst hv7
  have hsm := rsame_any A7 A3 c7 c3 N N w7 HO7.out.mbs_ (HM3.out.ext HR7.out) (by omega)
  rw [show decide (N = N) = true by simp] at hsm
  go_wp2_with fail
  refine hsm.mono ?_; rintro e w8 ⟨rfl, hb8⟩
  have HR8 := hid (ext_trans HR7.out hb8)
  clear hb8 hsm
  go_upto_region 9 with fail
  go_wp2_with ((go_at_call 30; refine (HTX.out w8 (HO.out.ext (ext_trans HB3.out HR8.out))).mono ?_; rintro e w9 ⟨rfl, hb9⟩; have HR9 := hid (ext_trans HR8.out hb9); clear hb9))
  refine (HRD.out w9).mono ?_; rintro e wa ⟨va, rfl, hoa, hba⟩
  have HOA := hid hoa
  have HRA := hid (ext_trans HR9.out hba)
  clear hoa hba
  obtain ⟨Aa, ca, hva⟩ := HOA.out.len
  subst hva
  by_cases hc : c = 0
  · subst hc
    by_cases hd : d = 0
    · subst hd
      have hsm := rsame_any Aa A ca cap X L wa HOA.out.mbs_ (HO.out.ext (ext_trans HB3.out HRA.out)) (by omega)
      by_cases hXL : X = L
      · subst hXL
        rw [show decide (X = X) = true by simp] at hsm
        have HGN := hid (HPG.out (HX.out rfl) rfl)
        have hms := size_good HGN.out
        have HTB := hid (text_back HGN.out)
        have htl := textS_len N
        have hrd := fun u => sread_any (textS N) u (by omega)
        have htx := fun u (h : Mbs u u.heap.size A2 N) => stext_any A2 c2 N u h (by omega) (by omega)
        rw [HTB.out] at hrd
        simp only at hrd
        generalize textS N = TN at htx hrd htl
        have HTN := hid htx
        have HRN := hid hrd
        clear htx hrd HTB HX HXB HPG
        go_wp2_with fail
        refine hsm.mono ?_; rintro e wb ⟨rfl, hbb⟩
        have HRB := hid (ext_trans HRA.out hbb)
        clear hbb hsm
        go_wp2_with fail
        refine (HTN.out wb (HM2.out.ext HRB.out)).mono ?_; rintro e wc ⟨rfl, hbc⟩
        have HRC := hid (ext_trans HRB.out hbc)
        clear hbc
        go_wp2_with fail
        refine (HRN.out wc).mono ?_; rintro e wd ⟨vd, rfl, hod, hbd⟩
        have HOD := hid hod
        have HRD2 := hid (ext_trans HRC.out hbd)
        clear hod hbd
        obtain ⟨Ad, cd, hvd⟩ := HOD.out.len
        subst hvd
        go_wp2_with fail
        refine (back44_any Ad cd N _ HOD.out.mbs_ (by omega)).mono ?_; rintro e we ⟨ve, rfl, hoe, hbe⟩
        have HOE := hid hoe
        have HRE := hid (ext_trans HRD2.out hbe)
        clear hoe hbe
        obtain ⟨Ae, ce, hve⟩ := HOE.out.len
        subst hve
        have hsm := rsame_any Ae A3 ce c3 N N we HOE.out.mbs_ (HM3.out.ext HRE.out) (by omega)
        rw [show decide (N = N) = true by simp] at hsm
        go_wp2_with fail
        refine hsm.mono ?_; rintro e wf ⟨rfl, hbf⟩
        have HRF := hid (ext_trans HRE.out hbf)
        clear hbf hsm
        go_wp2_with fail
        refine (sworks_any _).mono ?_; rintro e wg ⟨rfl, hbg⟩
        have HRG2 := hid (ext_trans HRF.out hbg)
        clear hbg
        go_wp2_with fail
        go_ret
        exact ⟨rfl, ext_trans HB3.out HRG2.out⟩
      · rw [show decide (X = L) = false by simpa using hXL] at hsm
        clear hXL
        go_wp2_with fail
        refine hsm.mono ?_; rintro e wb ⟨rfl, hbb⟩
        have HRB := hid (ext_trans HRA.out hbb)
        clear hbb hsm
        go_wp2_with fail
        refine (sworks_any _).mono ?_; rintro e wg ⟨rfl, hbg⟩
        have HRG2 := hid (ext_trans HRB.out hbg)
        clear hbg
        go_wp2_with fail
        go_ret
        exact ⟨rfl, ext_trans HB3.out HRG2.out⟩
    · have qd : (d == 0) = false := by rw [beq_eq_false_iff_ne]; exact hd
      have qd2 : (d != 0) = true := by rw [bne_iff_ne]; exact hd
      go_wp2_with fail
      refine (sworks_any _).mono ?_; rintro e wg ⟨rfl, hbg⟩
      have HRG2 := hid (ext_trans HRA.out hbg)
      clear hbg
      go_wp2_with fail
      go_ret
      exact ⟨rfl, ext_trans HB3.out HRG2.out⟩
  · have qc : (c == 0) = false := by rw [beq_eq_false_iff_ne]; exact hc
    have qc2 : (c != 0) = true := by rw [bne_iff_ne]; exact hc
    go_wp2_with fail
    refine (sworks_any _).mono ?_; rintro e wg ⟨rfl, hbg⟩
    have HRG2 := hid (ext_trans HRA.out hbg)
    clear hbg
    go_wp2_with fail
    go_ret
    exact ⟨rfl, ext_trans HB3.out HRG2.out⟩
end Go.Proofs.YtgfdmdikiickpaaDoor
