/-
  Walks of package state: Key.
-/
import Derived.Test.YtgfdmdikiickpaaDoorState
namespace Go.Proofs.YtgfdmdikiickpaaDoor
open Go.RowKit

theorem below_cell45 {B : Nat} {a w : World} (h : Below B a w) {g : Nat} (hg : B ≤ g) (o : Nat) (v : Value) : Below B a (w.setCell ⟨g, o, none⟩ v) := by
  have hg' : B ≤ (⟨g, o, none⟩ : Addr).block := hg
  with_reducible exact Below.setCell h hg' v
set_option maxRecDepth 100000 in
theorem skey_any (s : List UInt8) (w : World) (hs : s.length ≤ 4611686018427387904) :
    Calls Tryd.prog 24 #[Sv s] w fun e w' => e = .returned (.bool (keyB s)) ∧ Below w.heap.size w w' := by
  have hle := findN_le 64 s
  have hcut := fun u => scut_any s 64 u hs
  unfold cutOut at hcut
  obtain ⟨K, hK⟩ : ∃ K, keyB s = K := ⟨_, rfl⟩
  rw [hK]
  unfold keyB at hK
  have HO := hid hK.symm
  clear hK
  obtain ⟨k, hk⟩ : ∃ k, findN 64 s = k := ⟨_, rfl⟩
  rw [hk] at HO hle
  simp only [hk] at hcut
  clear hk
  have c0 : (w.alloc (.cells #[.nilFunc] 103)).cell? ⟨w.heap.size, 0, none⟩ = some .nilFunc := (Blk.new w 103 #[.nilFunc]).cell 0
  have f0 : (w.alloc (.cells #[.nilFunc] 103)).frozen? ⟨w.heap.size, 0, none⟩ = false := (Blk.new w 103 #[.nilFunc]).frozen 0
  obtain ⟨W1, hW1⟩ : ∃ W1, (w.alloc (.cells #[.nilFunc] 103)).setCell ⟨w.heap.size, 0, none⟩ (fnv 61) = W1 := ⟨_, rfl⟩
  have HB := hid (show Blk W1 w.heap.size 103 #[fnv 61] from hW1 ▸ (Blk.new w 103 #[.nilFunc]).set_ 0 _)
  have HW := hid (show Below w.heap.size w W1 from hW1 ▸ below_cell45 (ext_alloc w _) (Nat.le_refl _) 0 _)
  have hst : (store ⟨w.heap.size, 0, none⟩ (.func (.func 61) #[] #[])).run Tryd.prog (w.alloc (.cells #[.nilFunc] 103)) = .ok () W1 := by
    rw [run_store _ _ _ _ _ rfl, c0, f0, ← hW1]
    rfl
  clear hW1 c0 f0
  unfold fnv at HB
  have hlt : w.heap.size < W1.heap.size := HB.out.lt
  go_enter Tryd.func24, Tryd.ntmps24
  go_upto_region 2 with fail
  clear hst
  have hb := HB.out
  have cell2 : ∀ u, Below W1.heap.size W1 u → u.cell? ⟨w.heap.size, 0, none⟩ = some (.func (.func 61) #[] #[]) := fun u hu => ((hb.below hu hlt).cell 0)
  have CELL := hid cell2
  have BEL := hid (fun u (hu : Below W1.heap.size W1 u) => HW.out.trans (hu.mono HW.out.size))
  clear cell2 hb HB HW
  by_cases h : k = s.length
  · subst h
    rw [if_pos rfl] at HO
    simp only [Nat.lt_irrefl, decide_false] at hcut
    have ha := fun u => allkey_any s 256 u (by omega)
    generalize s.take s.length = A at hcut
    generalize s.drop (s.length + 1) = D at hcut
    obtain ⟨b, hb⟩ : ∃ b, allB inKeyB s 256 = b := ⟨_, rfl⟩
    rw [hb] at HO
    simp only [hb] at ha
    cases b with
    | false =>
      clear hb
      go_wp2_with (first
        | (go_at_call 57; refine (hcut _).mono ?_; rintro e w2 ⟨rfl, hb2⟩; have c2 := CELL.out _ hb2; have HB2 := hid hb2; clear hb2)
        | (go_at_call 62; refine (ha _).mono ?_; rintro e w3 ⟨rfl, hb3⟩; have HB3 := hid (HB2.out.trans (hb3.mono HB2.out.size)); clear hb3))
      go_ret
      exact ⟨by rw [HO.out]; rfl, BEL.out _ HB3.out⟩
    | true =>
      have h1 := allB_pos hb
      clear hb
      go_wp2_with (first
        | (go_at_call 57; refine (hcut _).mono ?_; rintro e w2 ⟨rfl, hb2⟩; have c2 := CELL.out _ hb2; have HB2 := hid hb2; clear hb2)
        | (go_at_call 62; refine (ha _).mono ?_; rintro e w3 ⟨rfl, hb3⟩; have HB3 := hid (HB2.out.trans (hb3.mono HB2.out.size)); clear hb3)
        | (go_at_call 63; refine (lower_any _ _).mono ?_; rintro e w4 ⟨rfl, rfl⟩))
      go_ret
      exact ⟨by rw [HO.out]; rfl, BEL.out _ HB3.out⟩
  · rw [if_neg h] at HO
    rw [show decide (k < s.length) = true by simp; omega] at hcut
    have hA : (s.take k).length ≤ s.length := by simp only [List.length_take]; omega
    have hD : (s.drop (k + 1)).length ≤ s.length := by simp only [List.length_drop]; omega
    generalize s.take k = A at *
    generalize s.drop (k + 1) = D at *
    have ha := fun u => allkey_any A 241 u (by omega)
    have hd := fun u => allkey_any D 14 u (by omega)
    clear h hle
    obtain ⟨b, hb⟩ : ∃ b, allB inKeyB A 241 = b := ⟨_, rfl⟩
    obtain ⟨d, hd0⟩ : ∃ d, allB inKeyB D 14 = d := ⟨_, rfl⟩
    rw [hb, hd0] at HO
    simp only [hb] at ha
    simp only [hd0] at hd
    cases b with
    | false =>
      clear hb hd0 hd
      go_wp2_with (first
        | (go_at_call 57; refine (hcut _).mono ?_; rintro e w2 ⟨rfl, hb2⟩; have c2 := CELL.out _ hb2; have HB2 := hid hb2; clear hb2)
        | (go_at_call 62; refine (ha _).mono ?_; rintro e w3 ⟨rfl, hb3⟩; have HB3 := hid (HB2.out.trans (hb3.mono HB2.out.size)); clear hb3))
      go_ret
      exact ⟨by rw [HO.out]; rfl, BEL.out _ HB3.out⟩
    | true =>
      have h1 := allB_pos hb
      clear hb
      obtain ⟨l, hl⟩ : ∃ l, lowK (byteAt A 0) = l := ⟨_, rfl⟩
      obtain ⟨q, hq⟩ : ∃ q, numK (byteAt A 0) = q := ⟨_, rfl⟩
      have hlo := fun u => lower_any (byteAt A 0) u
      have hdi := fun u => digit_any (byteAt A 0) u
      rw [hl, hq] at HO
      simp only [hl] at hlo
      simp only [hq] at hdi
      clear hl hq
      by_cases hlq : l = false ∧ q = false
      · obtain ⟨rfl, rfl⟩ := hlq
        clear hd0 hd
        go_wp2_with (first
          | (go_at_call 57; refine (hcut _).mono ?_; rintro e w2 ⟨rfl, hb2⟩; have c2 := CELL.out _ hb2; have HB2 := hid hb2; clear hb2)
          | (go_at_call 62; refine (ha _).mono ?_; rintro e w3 ⟨rfl, hb3⟩; have c3 := CELL.out _ (HB2.out.trans (hb3.mono HB2.out.size)); have HB3 := hid (HB2.out.trans (hb3.mono HB2.out.size)); clear hb3)
          | (go_at_call 63; refine (hlo _).mono ?_; rintro e w4 ⟨rfl, rfl⟩)
          | (go_at_call 64; refine (hdi _).mono ?_; rintro e w4 ⟨rfl, rfl⟩))
        go_ret
        exact ⟨by rw [HO.out]; rfl, BEL.out _ HB3.out⟩
      · have hor : (l || q) = true := by cases l <;> cases q <;> simp at hlq ⊢
        rw [hor] at HO
        have HD := hid (fun h => allB_pos (hd0.trans h))
        clear hlq
        cases l with
        | true =>
          cases d with
          | false =>
            clear hd0
            go_wp2_with (first
              | (go_at_call 57; refine (hcut _).mono ?_; rintro e w2 ⟨rfl, hb2⟩; have c2 := CELL.out _ hb2; have HB2 := hid hb2; clear hb2)
              | (go_at_call 62; (with_reducible refine (ha _).mono ?_); rintro e w3 ⟨rfl, hb3⟩; have c3 := CELL.out _ (HB2.out.trans (hb3.mono HB2.out.size)); have HB3 := hid (HB2.out.trans (hb3.mono HB2.out.size)); clear hb3)
              | (go_at_call 63; refine (hlo _).mono ?_; rintro e w4 ⟨rfl, rfl⟩)
              | (go_at_call 62; (with_reducible refine (hd _).mono ?_); rintro e w5 ⟨rfl, hb5⟩; have HB5 := hid (HB3.out.trans (hb5.mono HB3.out.size)); clear hb5))
            go_ret
            exact ⟨by rw [HO.out]; rfl, BEL.out _ HB5.out⟩
          | true =>
            have h2 := HD.out rfl
            clear hd0
            go_wp2_with (first
              | (go_at_call 57; refine (hcut _).mono ?_; rintro e w2 ⟨rfl, hb2⟩; have c2 := CELL.out _ hb2; have HB2 := hid hb2; clear hb2)
              | (go_at_call 62; (with_reducible refine (ha _).mono ?_); rintro e w3 ⟨rfl, hb3⟩; have c3 := CELL.out _ (HB2.out.trans (hb3.mono HB2.out.size)); have HB3 := hid (HB2.out.trans (hb3.mono HB2.out.size)); clear hb3)
              | (go_at_call 63; (with_reducible refine (hlo _).mono ?_); rintro e w4 ⟨rfl, rfl⟩)
              | (go_at_call 62; (with_reducible refine (hd _).mono ?_); rintro e w5 ⟨rfl, hb5⟩; have HB5 := hid (HB3.out.trans (hb5.mono HB3.out.size)); clear hb5)
              | (go_at_call 63; refine (lower_any _ _).mono ?_; rintro e w6 ⟨rfl, rfl⟩))
            go_ret
            exact ⟨by rw [HO.out]; rfl, BEL.out _ HB5.out⟩
        | false =>
          obtain rfl : q = true := by simpa using hor
          cases d with
          | false =>
            clear hd0
            go_wp2_with (first
              | (go_at_call 57; refine (hcut _).mono ?_; rintro e w2 ⟨rfl, hb2⟩; have c2 := CELL.out _ hb2; have HB2 := hid hb2; clear hb2)
              | (go_at_call 62; (with_reducible refine (ha _).mono ?_); rintro e w3 ⟨rfl, hb3⟩; have c3 := CELL.out _ (HB2.out.trans (hb3.mono HB2.out.size)); have HB3 := hid (HB2.out.trans (hb3.mono HB2.out.size)); clear hb3)
              | (go_at_call 63; refine (hlo _).mono ?_; rintro e w4 ⟨rfl, rfl⟩)
              | (go_at_call 64; refine (hdi _).mono ?_; rintro e w4 ⟨rfl, rfl⟩)
              | (go_at_call 62; (with_reducible refine (hd _).mono ?_); rintro e w5 ⟨rfl, hb5⟩; have HB5 := hid (HB3.out.trans (hb5.mono HB3.out.size)); clear hb5))
            go_ret
            exact ⟨by rw [HO.out]; rfl, BEL.out _ HB5.out⟩
          | true =>
            have h2 := HD.out rfl
            clear hd0
            go_wp2_with (first
              | (go_at_call 57; refine (hcut _).mono ?_; rintro e w2 ⟨rfl, hb2⟩; have c2 := CELL.out _ hb2; have HB2 := hid hb2; clear hb2)
              | (go_at_call 62; (with_reducible refine (ha _).mono ?_); rintro e w3 ⟨rfl, hb3⟩; have c3 := CELL.out _ (HB2.out.trans (hb3.mono HB2.out.size)); have HB3 := hid (HB2.out.trans (hb3.mono HB2.out.size)); clear hb3)
              | (go_at_call 63; (with_reducible refine (hlo _).mono ?_); rintro e w4 ⟨rfl, rfl⟩)
              | (go_at_call 64; refine (hdi _).mono ?_; rintro e w4 ⟨rfl, rfl⟩)
              | (go_at_call 62; (with_reducible refine (hd _).mono ?_); rintro e w5 ⟨rfl, hb5⟩; have HB5 := hid (HB3.out.trans (hb5.mono HB3.out.size)); clear hb5)
              | (go_at_call 63; refine (lower_any _ _).mono ?_; rintro e w6 ⟨rfl, rfl⟩))
            go_ret
            exact ⟨by rw [HO.out]; rfl, BEL.out _ HB5.out⟩
end Go.Proofs.YtgfdmdikiickpaaDoor
