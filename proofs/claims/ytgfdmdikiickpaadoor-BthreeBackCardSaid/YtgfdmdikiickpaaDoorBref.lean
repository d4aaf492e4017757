/-
  Walks of the reference of package b3: letter, keep, span, trace, within, names, May.
-/
import Derived.Test.YtgfdmdikiickpaaDoorBthreeI
import Derived.Test.YtgfdmdikiickpaaDoorIdentRefB
import Derived.Test.YtgfdmdikiickpaaDoorHexaRef
import Derived.Test.YtgfdmdikiickpaaDoorZero
namespace Go.Proofs.YtgfdmdikiickpaaDoor
open Go.RowKit

set_option maxRecDepth 100000 in
set_option maxHeartbeats 1000000 in
theorem rletter_any (k : Int) (w : World) :
    Calls Tryd.prog 51 #[.int .i64 k] w fun e w' => e = .returned (Sv (letterS k)) ∧ w' = w := by
  by_cases h1 : k = 1
  · subst h1
    go_enter Tryd.func51, Tryd.ntmps51
    go_wp2_with fail
    go_ret
    exact ⟨rfl, rfl⟩
  · by_cases h2 : k = 2
    · subst h2
      go_enter Tryd.func51, Tryd.ntmps51
      go_wp2_with fail
      go_ret
      exact ⟨rfl, rfl⟩
    · by_cases h3 : k = 3
      · subst h3
        go_enter Tryd.func51, Tryd.ntmps51
        go_wp2_with fail
        go_ret
        exact ⟨rfl, rfl⟩
      · have HK := hid (letterS_zero (k := k) (by omega))
        go_enter Tryd.func51, Tryd.ntmps51
        go_wp2_with fail
        go_ret
        exact ⟨by rw [HK.out]; rfl, rfl⟩
set_option maxRecDepth 100000 in
set_option maxHeartbeats 2000000 in
theorem rkeep_any (s : List UInt8) (w : World) :
    Calls Tryd.prog 39 #[Sv s] w fun e w' => e = .returned (.int .i64 (keepS s)) ∧ Below w.heap.size w w' := by
  go_enter Tryd.func39, Tryd.ntmps39
  go_wp2_with fail
  go_loopw [3] (fun i wr => wr = w ∧ ∃ n : Nat, i = .int .i64 (n : Int) ∧ 1 ≤ n ∧ n ≤ 4 ∧ Hid (∀ j : Nat, 1 ≤ j → j < n → letterS j ≠ s)) (fun i _ => 5 - (intOf i).toNat)
  case atStart => exact ⟨rfl, 1, rfl, by omega, by omega, fun j h1 h2 => by omega⟩
  case round =>
    obtain ⟨rfl, n, rfl, h1, h4, HN⟩ := hrel
    rcases (by omega : n = 1 ∨ n = 2 ∨ n = 3 ∨ n = 4) with rfl | rfl | rfl | rfl
    · by_cases hs : s = [48]
      · subst hs
        go_wp2_with (go_at_call 51; refine (rletter_any 1 _).mono ?_; rintro e w1 ⟨rfl, rfl⟩; rw [show letterS 1 = [48] from rfl])
        go_ret
        exact ⟨rfl, Below.refl _ _⟩
      · have q := beq_no (Ne.symm hs)
        have HS := hid hs
        clear hs
        go_wp2_with (go_at_call 51; refine (rletter_any 1 _).mono ?_; rintro e w1 ⟨rfl, rfl⟩; rw [show letterS 1 = [48] from rfl])
        refine ⟨⟨trivial, 2, rfl, by omega, by omega, fun j j1 j2 e => ?_⟩, by simp [intOf]⟩
        obtain rfl : j = 1 := by omega
        exact HS.out (by rw [← e]; rfl)
    · by_cases hs : s = [49]
      · subst hs
        go_wp2_with (go_at_call 51; refine (rletter_any 2 _).mono ?_; rintro e w1 ⟨rfl, rfl⟩; rw [show letterS 2 = [49] from rfl])
        go_ret
        exact ⟨rfl, Below.refl _ _⟩
      · have q := beq_no (Ne.symm hs)
        have HS := hid hs
        clear hs
        go_wp2_with (go_at_call 51; refine (rletter_any 2 _).mono ?_; rintro e w1 ⟨rfl, rfl⟩; rw [show letterS 2 = [49] from rfl])
        refine ⟨⟨trivial, 3, rfl, by omega, by omega, fun j j1 j2 e => ?_⟩, by simp [intOf]⟩
        rcases (by omega : j = 1 ∨ j = 2) with rfl | rfl
        · exact HN.out 1 (by omega) (by omega) e
        · exact HS.out (by rw [← e]; rfl)
    · by_cases hs : s = [100]
      · subst hs
        go_wp2_with (go_at_call 51; refine (rletter_any 3 _).mono ?_; rintro e w1 ⟨rfl, rfl⟩; rw [show letterS 3 = [100] from rfl])
        go_ret
        exact ⟨rfl, Below.refl _ _⟩
      · have q := beq_no (Ne.symm hs)
        have HS := hid hs
        clear hs
        go_wp2_with (go_at_call 51; refine (rletter_any 3 _).mono ?_; rintro e w1 ⟨rfl, rfl⟩; rw [show letterS 3 = [100] from rfl])
        refine ⟨⟨trivial, 4, rfl, by omega, by omega, fun j j1 j2 e => ?_⟩, by simp [intOf]⟩
        rcases (by omega : j < 3 ∨ j = 3) with q | rfl
        · exact HN.out j j1 q e
        · exact HS.out (by rw [← e]; rfl)
    · have HK := hid (show keepS s = 0 by
        unfold keepS
        rw [if_neg (fun e => HN.out 1 (by omega) (by omega) (by rw [e]; rfl)), if_neg (fun e => HN.out 2 (by omega) (by omega) (by rw [e]; rfl)), if_neg (fun e => HN.out 3 (by omega) (by omega) (by rw [e]; rfl))])
      go_wp2_with fail
      go_ret
      exact ⟨by rw [HK.out]; rfl, Below.refl _ _⟩
set_option maxRecDepth 100000 in
set_option maxHeartbeats 2000000 in
theorem rtr_any (t : List UInt8) (w : World) (ht : t.length = 16) :
    Calls Tryd.prog 53 #[Av t] w fun e w' => e = .returned (.bool (named t)) ∧ Below w.heap.size w w' := by
  have HF := hid ((Frm.start w).new 25 (b8s t).toArray rfl)
  have HT := hid ht
  have hh := fun u => rhalves_any t u ht
  have HN := hid (show named t = !(decide (valH (t.take 8) = 0) && decide (valH (t.drop 8) = 0)) by unfold named; rw [tr_zero t ht])
  generalize valH (t.take 8) = a at hh HN
  generalize valH (t.drop 8) = b at hh HN
  clear ht
  go_enter Tryd.func53, Tryd.ntmps53
  by_cases ha : a = 0 <;> by_cases hb : b = 0
  all_goals
    go_wp2_with (first
      | (refine wpList_loadE rfl rfl (HF.out.load16 0 rfl HT.out) rfl ?_)
      | (go_at_call 78; refine (hh _).mono ?_; rintro e w1 ⟨rfl, hb1⟩; have HF1 := hid (HF.out.call hb1); clear hb1))
    go_ret
    exact ⟨by rw [HN.out]; simp [ha, hb], HF1.out.bel⟩
end Go.Proofs.YtgfdmdikiickpaaDoor
