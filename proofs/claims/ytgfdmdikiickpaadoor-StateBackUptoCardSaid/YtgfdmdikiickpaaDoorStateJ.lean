/-
  Walk of package state: Read.
-/
import Derived.Test.YtgfdmdikiickpaaDoorStateB
import Derived.Test.YtgfdmdikiickpaaDoorStateE
namespace Go.Proofs.YtgfdmdikiickpaaDoor
open Go.RowKit

def ReadRel (w : World) (s : List UInt8) (ps : List (List UInt8)) (v i : Value) (wr : World) : Prop := ∃ (v' : Value) (k : Nat) (acc : List Mb), v' = v ∧ i = .int .i64 (k : Int) ∧ k ≤ ps.length ∧ acc.length ≤ 32 ∧ Hid (OwnM wr (w.heap.size + 1) 92 v' acc) ∧ Hid (readS s = readP (ps.drop k) acc) ∧ Hid (Below w.heap.size w wr ∧ Blk wr w.heap.size 9 (ps.map Sv).toArray)
theorem part_cell {w : World} {g : Nat} {ps : List (List UInt8)} (h : Blk w g 9 (ps.map Sv).toArray) {k : Nat} {p : List UInt8} (hp : ps[k]? = some p) : w.cell? ⟨g, k, none⟩ = some (Sv p) :=
  (h.cell k).trans (by simp [hp])
set_option maxRecDepth 100000 in
set_option maxHeartbeats 8000000 in
theorem sread_any (s : List UInt8) (w : World) (hs : s.length ≤ 4000000000) :
    Calls Tryd.prog 20 #[Sv s] w fun e w' => ∃ v, e = .returned (.tuple #[v, .int .i64 (readS s).2]) ∧ OwnM w' w.heap.size 92 v (readS s).1 ∧ Below w.heap.size w w' := by
  have hsp := fun u => ssplit_any s 44 u (by omega)
  have HPS := hid (show readS s = readP (cutB 44 s) [] from rfl)
  have HFL := hid (cutB_flat 44 s)
  have hcl := cutB_length 44 s
  generalize cutB 44 s = ps at hsp HPS HFL hcl
  have HB0 := hid (show Below w.heap.size w (w.alloc (.cells (ps.map Sv).toArray 9)) ∧ Blk (w.alloc (.cells (ps.map Sv).toArray 9)) w.heap.size 9 (ps.map Sv).toArray from ⟨ext_alloc w _, Blk.new w _ _⟩)
  obtain ⟨W1, hW1⟩ : ∃ W1, w.alloc (.cells (ps.map Sv).toArray 9) = W1 := ⟨_, rfl⟩
  rw [hW1] at HB0
  have HW1 := hid hW1
  clear hW1
  go_enter Tryd.func20, Tryd.ntmps20
  go_wp2_with fail
  refine (hsp _).mono ?_; rintro e w1 ⟨rfl, hw1⟩
  rw [HW1.out] at hw1
  subst hw1
  clear HW1 hsp
  go_wp2_with fail
  go_loopw [4, 13] (fun v i wr => ReadRel w s ps v i wr) (fun _ i _ => ps.length - (intOf i).toNat)
  case atStart => exact ⟨_, 0, [], rfl, rfl, Nat.zero_le _, by simp, OwnM.nil _ _ _, hid (by rw [HPS.out, List.drop_zero]), HB0⟩
  case round =>
    obtain ⟨v', k, acc, hv, rfl, hk, hacc, HW, HP, HB⟩ := hrel
    subst hv
    obtain ⟨A1, c1, hform⟩ := HW.out.len
    subst hform
    by_cases hlt : k < ps.length
    · obtain ⟨p, hp⟩ := get_lt hlt
      have hpl : p.length ≤ s.length := HFL.out p (List.mem_of_getElem? hp)
      have c0 := part_cell HB.out.2 hp
      have HP2 := hid (HP.out.trans (readP_at hp acc))
      clear hp
      have qi : (0 : Int) ≤ (k : Int) ∧ (k : Int) < (ps.length : Int) := by omega
      have htrim := fun u => strim_any p u (by omega)
      have htl := trimB_len p
      have HS1 := hid (step_skip (acc := acc) (p := p))
      have HS2 := hid (step_form (acc := acc) (p := p))
      have HS3 := hid (step_rest (acc := acc) (p := p))
      generalize trimB p = tp at htrim htl HS1 HS2 HS3
      by_cases h0 : tp = []
      · subst h0
        have HN := hid (show readS s = readP (ps.drop (k + 1)) acc by rw [HP2.out, HS1.out rfl, if_pos rfl])
        clear HS1 HS2 HS3 HP2
        go_wp2_with ((go_at_call 56; refine (htrim _).mono ?_; rintro e w2 ⟨rfl, hb2⟩; have HR2 := hid hb2; clear hb2))
        refine ⟨⟨_, k + 1, acc, rfl, by go_num, hlt, hacc, hid (HW.out.ext HR2.out), HN, hid ⟨HB.out.1.trans (HR2.out.mono HB.out.1.size), HB.out.2.below HR2.out HB.out.2.lt⟩⟩, by simp [intOf] <;> omega⟩
      · have h0' : (tp == []) = false := by simpa using h0
        have hcut := fun u => scut_any tp 61 u (by omega)
        unfold cutOut at hcut
        have HS2' := hid (HS2.out h0)
        have HS3' := hid (HS3.out h0)
        clear HS1 HS2 HS3 h0
        have hkl : (tp.take (findN 61 tp)).length ≤ tp.length := by rw [List.length_take]; omega
        have hvl : (tp.drop (findN 61 tp + 1)).length ≤ tp.length := by rw [List.length_drop]; omega
        obtain ⟨is, his⟩ : ∃ is, decide (findN 61 tp < tp.length) = is := ⟨_, rfl⟩
        rw [← decide_eq_true_eq (p := findN 61 tp < tp.length), his] at HS2' HS3'
        simp only [his] at hcut
        clear his
        generalize tp.take (findN 61 tp) = key at *
        generalize tp.drop (findN 61 tp + 1) = value at *
        have hkey := fun u => skey_any key u (by omega)
        have hval := fun u => svalue_any value u (by omega)
        obtain ⟨K, hK⟩ : ∃ K, keyB key = K := ⟨_, rfl⟩
        obtain ⟨V, hV⟩ : ∃ V, valB value = V := ⟨_, rfl⟩
        rw [hK, hV] at HS2' HS3'
        simp only [hK] at hkey
        simp only [hV] at hval
        clear hK hV
        by_cases hall : is = true ∧ K = true ∧ V = true
        · obtain ⟨rfl, rfl, rfl⟩ := hall
          have HS := hid (HS3'.out rfl rfl rfl)
          clear HS2' HS3'
          have hhas := fun u (hu : Below wr.heap.size wr u) => has_any A1 c1 acc key u ((HW.out.ext hu).mbs_) (by omega)
          rcases idx_neg (L := acc) (key := key) with ⟨hh, hi⟩ | ⟨hh, hi⟩
          · have HE := hid (show readS s = ([], 8) by rw [HP2.out, HS.out, if_pos hh]; rfl)
            clear HP2 HS hh
            generalize idxM acc key = ix at hhas hi
            have HHAS := hid hhas
            clear hhas
            go_wp2_with (first
              | (go_at_call 56; refine (htrim _).mono ?_; rintro e w2 ⟨rfl, hb2⟩; have HR2 := hid hb2; clear hb2)
              | (go_at_call 57; refine (hcut _).mono ?_; rintro e w3 ⟨rfl, hb3⟩; have HR3 := hid (ext_trans HR2.out hb3); clear hb3)
              | (go_at_call 24; refine (hkey _).mono ?_; rintro e w4 ⟨rfl, hb4⟩; have HR4 := hid (ext_trans HR3.out hb4); clear hb4)
              | (go_at_call 26; refine (hval _).mono ?_; rintro e w5 ⟨rfl, hb5⟩; have HR5 := hid (ext_trans HR4.out hb5); clear hb5)
              | (go_at_call 58; refine (HHAS.out _ HR5.out).mono ?_; rintro e w6 ⟨rfl, hb6⟩; have HR6 := hid (ext_trans HR5.out hb6); clear hb6))
            go_ret2
            exact ⟨_, by rw [HE.out]; rfl, by rw [HE.out]; exact OwnM.nil _ _ _, HB.out.1.trans (HR6.out.mono HB.out.1.size)⟩
          · rw [hi] at hhas
            have HHAS := hid hhas
            clear hhas hi
            have HS' := hid (show stepS acc p = if acc.length = 32 then ([], 34) else (acc ++ [(key, value)], 0) by rw [HS.out, if_neg (by rw [hh]; simp)])
            clear HS hh
            by_cases h32 : acc.length = 32
            · have HE := hid (show readS s = ([], 34) by rw [HP2.out, HS'.out, if_pos h32]; rfl)
              clear HP2 HS'
              have q32 : ((acc.length : Int) == 32) = true := by rw [h32]; rfl
              have HH32 := hid h32
              clear h32
              go_wp2_with (first
                | (go_at_call 56; refine (htrim _).mono ?_; rintro e w2 ⟨rfl, hb2⟩; have HR2 := hid hb2; clear hb2)
                | (go_at_call 57; refine (hcut _).mono ?_; rintro e w3 ⟨rfl, hb3⟩; have HR3 := hid (ext_trans HR2.out hb3); clear hb3)
                | (go_at_call 24; refine (hkey _).mono ?_; rintro e w4 ⟨rfl, hb4⟩; have HR4 := hid (ext_trans HR3.out hb4); clear hb4)
                | (go_at_call 26; refine (hval _).mono ?_; rintro e w5 ⟨rfl, hb5⟩; have HR5 := hid (ext_trans HR4.out hb5); clear hb5)
                | (go_at_call 58; refine (HHAS.out _ HR5.out).mono ?_; rintro e w6 ⟨rfl, hb6⟩; have HR6 := hid (ext_trans HR5.out hb6); clear hb6))
              go_ret2
              exact ⟨_, by rw [HE.out]; rfl, by rw [HE.out]; exact OwnM.nil _ _ _, HB.out.1.trans (HR6.out.mono HB.out.1.size)⟩
            · have HN := hid (show readS s = readP (ps.drop (k + 1)) (acc ++ [(key, value)]) by rw [HP2.out, HS'.out, if_neg h32, if_pos rfl])
              clear HP2 HS'
              have q32 : ((acc.length : Int) == 32) = false := by rw [beq_eq_false_iff_ne]; omega
              have hal : acc.length ≤ 31 := by omega
              have hkl2 : acc.length ≤ 1000000 := by omega
              clear h32
              go_wp2_with (first
                | (go_at_call 56; refine (htrim _).mono ?_; rintro e w2 ⟨rfl, hb2⟩; have HR2 := hid hb2; clear hb2)
                | (go_at_call 57; refine (hcut _).mono ?_; rintro e w3 ⟨rfl, hb3⟩; have HR3 := hid (ext_trans HR2.out hb3); clear hb3)
                | (go_at_call 24; refine (hkey _).mono ?_; rintro e w4 ⟨rfl, hb4⟩; have HR4 := hid (ext_trans HR3.out hb4); clear hb4)
                | (go_at_call 26; refine (hval _).mono ?_; rintro e w5 ⟨rfl, hb5⟩; have HR5 := hid (ext_trans HR4.out hb5); clear hb5)
                | (go_at_call 58; refine (HHAS.out _ HR5.out).mono ?_; rintro e w6 ⟨rfl, hb6⟩; have HR6 := hid (ext_trans HR5.out hb6); clear hb6
                   have HO7 := hid (HW.out.ext (ext_trans HR6.out (ext_alloc w6 (.cells #[Sv key, Sv value] 92))))
                   have HBK := hid (Blk.new w6 92 (mcs (key, value)))
                   have HB6 := hid (HB.out.1.trans (HR6.out.mono HB.out.1.size))
                   have HB7 := hid (HB6.out.alloc HB6.out.size (.cells #[Sv key, Sv value] 92))
                   have HBL := hid (HB.out.2.below (ext_trans HR6.out (ext_alloc w6 (.cells #[Sv key, Sv value] 92))) HB.out.2.lt))
                | (refine wpList_appM rfl _ _ _ _ Tryd.underlying43 info_sm rfl (w.heap.size + 1) (.slice A1 acc.length c1) acc rfl HO7.out w6.heap.size 1 92 (key, value) rfl HBK.out hkl2 HBL.out.lt ?_; intro v8 w8 hown8 hg8; have HO8 := hid hown8; have HG8 := hid hg8; clear hown8 hg8))
              refine ⟨⟨v8, k + 1, acc ++ [(key, value)], rfl, by go_num, hlt, by simp; omega, HO8, HN, hid ⟨Below.grown HB7.out HG8.out HB7.out.size (fun k hk => by have := (World.ownsRow.lt HO7.out k hk).1; omega), HBL.out.grown HG8.out (fun e => by have := (World.ownsRow.lt HO7.out _ e.symm).1; omega)⟩⟩, by simp [intOf] <;> omega⟩
        · have HE := hid (show readS s = ([], 3) by rw [HP2.out, HS2'.out hall]; rfl)
          clear HP2 HS2' HS3'
          cases is with
          | false =>
            go_wp2_with (first
            | (go_at_call 56; refine (htrim _).mono ?_; rintro e w2 ⟨rfl, hb2⟩; have HR2 := hid hb2; clear hb2)
            | (go_at_call 57; refine (hcut _).mono ?_; rintro e w3 ⟨rfl, hb3⟩; have HR3 := hid (ext_trans HR2.out hb3); clear hb3)
            | (go_at_call 24; refine (hkey _).mono ?_; rintro e w4 ⟨rfl, hb4⟩; have HR4 := hid (ext_trans HR3.out hb4); clear hb4)
            | (go_at_call 26; refine (hval _).mono ?_; rintro e w5 ⟨rfl, hb5⟩; have HR5 := hid (ext_trans HR4.out hb5); clear hb5))
            go_ret2
            exact ⟨_, by rw [HE.out]; rfl, by rw [HE.out]; exact OwnM.nil _ _ _, HB.out.1.trans (HR3.out.mono HB.out.1.size)⟩
          | true =>
            cases K with
            | false =>
              go_wp2_with (first
              | (go_at_call 56; refine (htrim _).mono ?_; rintro e w2 ⟨rfl, hb2⟩; have HR2 := hid hb2; clear hb2)
              | (go_at_call 57; refine (hcut _).mono ?_; rintro e w3 ⟨rfl, hb3⟩; have HR3 := hid (ext_trans HR2.out hb3); clear hb3)
              | (go_at_call 24; refine (hkey _).mono ?_; rintro e w4 ⟨rfl, hb4⟩; have HR4 := hid (ext_trans HR3.out hb4); clear hb4)
              | (go_at_call 26; refine (hval _).mono ?_; rintro e w5 ⟨rfl, hb5⟩; have HR5 := hid (ext_trans HR4.out hb5); clear hb5))
              go_ret2
              exact ⟨_, by rw [HE.out]; rfl, by rw [HE.out]; exact OwnM.nil _ _ _, HB.out.1.trans (HR4.out.mono HB.out.1.size)⟩
            | true =>
              cases V with
              | false =>
                go_wp2_with (first
                | (go_at_call 56; refine (htrim _).mono ?_; rintro e w2 ⟨rfl, hb2⟩; have HR2 := hid hb2; clear hb2)
                | (go_at_call 57; refine (hcut _).mono ?_; rintro e w3 ⟨rfl, hb3⟩; have HR3 := hid (ext_trans HR2.out hb3); clear hb3)
                | (go_at_call 24; refine (hkey _).mono ?_; rintro e w4 ⟨rfl, hb4⟩; have HR4 := hid (ext_trans HR3.out hb4); clear hb4)
                | (go_at_call 26; refine (hval _).mono ?_; rintro e w5 ⟨rfl, hb5⟩; have HR5 := hid (ext_trans HR4.out hb5); clear hb5))
                go_ret2
                exact ⟨_, by rw [HE.out]; rfl, by rw [HE.out]; exact OwnM.nil _ _ _, HB.out.1.trans (HR5.out.mono HB.out.1.size)⟩
              | true => exact absurd ⟨rfl, rfl, rfl⟩ hall
    · obtain rfl : k = ps.length := by omega
      have HE := hid (show readS s = (acc, 0) by rw [HP.out, readP_end])
      go_wp2_with fail
      go_ret2
      exact ⟨_, by rw [HE.out]; rfl, by rw [HE.out]; exact HW.out.mono_ (by omega), HB.out.1⟩
end Go.Proofs.YtgfdmdikiickpaaDoor
