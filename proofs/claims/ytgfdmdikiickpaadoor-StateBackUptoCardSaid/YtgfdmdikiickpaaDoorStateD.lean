/-
  Walks of the reference of package state: trim, Key.
-/
import Derived.Test.YtgfdmdikiickpaaDoorStateC
namespace Go.Proofs.YtgfdmdikiickpaaDoor
open Go.RowKit

theorem ldrop_at (s : List UInt8) (h : 1 ≤ s.length) : ldrop s = if (byteAt s 0 == 32 || byteAt s 0 == 9) = true then ldrop (s.drop 1) else s := by
  have := ldrop_drop s 0 h
  rw [List.drop_zero, blankB_eq, Nat.zero_add] at this
  rw [this, byteAt_getElem s 0 h]
theorem rdrop_at (s : List UInt8) (h : 1 ≤ s.length) : rdrop s = if (byteAt s (s.length - 1) == 32 || byteAt s (s.length - 1) == 9) = true then rdrop (s.take (s.length - 1)) else s := by
  have := rdrop_take s (s.length - 1) (by omega)
  rw [show s.length - 1 + 1 = s.length by omega, List.take_length, blankB_eq] at this
  rw [this, byteAt_getElem s (s.length - 1) (by omega)]
def TrimRel (w : World) (s : List UInt8) (v : Value) (wr : World) : Prop := ∃ l : List UInt8, v = Sv l ∧ l.length ≤ s.length ∧ Hid (ldrop s = ldrop l) ∧ wr = w
def TrimRel2 (w : World) (s : List UInt8) (v : Value) (wr : World) : Prop := ∃ l : List UInt8, v = Sv l ∧ l.length ≤ s.length ∧ Hid (rdrop (ldrop s) = rdrop l) ∧ wr = w
def lenOf : Value → Nat
  | .string s => s.data.size
  | _ => 0
theorem lenOf_Sv (s : List UInt8) : lenOf (Sv s) = s.length := rfl
set_option maxRecDepth 100000 in
theorem rtrim_any (s : List UInt8) (w : World) (hs : s.length ≤ 9223372036854775806) :
    Calls Tryd.prog 60 #[Sv s] w fun e w' => e = .returned (Sv (trimB s)) ∧ w = w' := by
  go_enter Tryd.func60, Tryd.ntmps60
  go_wp2_with fail
  try simp only [string_Sv]
  go_loopw [0] (fun v wr => TrimRel w s v wr) (fun v _ => lenOf v)
  case atStart => exact ⟨s, rfl, Nat.le_refl _, hid rfl, rfl⟩
  case round =>
    obtain ⟨l, rfl, hl, HP, rfl⟩ := hrel
    by_cases h1 : 1 ≤ l.length
    · have HD := hid (ldrop_at l h1)
      have hb := fun u => rblank_any (byteAt l 0) u
      obtain ⟨b, hbb⟩ : ∃ b, (byteAt l 0 == 32 || byteAt l 0 == 9) = b := ⟨_, rfl⟩
      rw [hbb] at HD
      simp only [hbb] at hb
      clear hbb
      cases b with
      | true =>
        have HP2 := hid (show ldrop s = ldrop (l.drop 1) by rw [HP.out, HD.out]; rfl)
        go_wp2_with ((go_at_call 91; refine (hb _).mono ?_; rintro e w' ⟨rfl, rfl⟩))
        refine ⟨⟨l.tail, rfl, by simp; omega, hid (by rw [HP2.out, List.drop_one]), rfl⟩, by rw [lenOf_Sv, lenOf_Sv]; simp; omega⟩
      | false =>
        have HPL := hid (show ldrop s = l by rw [HP.out, HD.out]; rfl)
        go_wp2_with ((go_at_call 91; refine (hb _).mono ?_; rintro e w' ⟨rfl, rfl⟩))
        go_loopw [0] (fun v u => TrimRel2 wr s v u) (fun v _ => lenOf v)
        case atStart => exact ⟨l, rfl, hl, hid (by rw [HPL.out]), rfl⟩
        case round =>
          obtain ⟨m, rfl, hm, HM, rfl⟩ := hrel
          by_cases h2 : 1 ≤ m.length
          · have HD := hid (rdrop_at m h2)
            have hb := fun u => rblank_any (byteAt m (m.length - 1)) u
            obtain ⟨b, hbb⟩ : ∃ b, (byteAt m (m.length - 1) == 32 || byteAt m (m.length - 1) == 9) = b := ⟨_, rfl⟩
            rw [hbb] at HD
            simp only [hbb] at hb
            clear hbb
            cases b with
            | true =>
              have HM2 := hid (show rdrop (ldrop s) = rdrop (m.take (m.length - 1)) by rw [HM.out, HD.out]; rfl)
              go_wp2_with ((go_at_call 91; refine (hb _).mono ?_; rintro e w' ⟨rfl, rfl⟩))
              refine ⟨⟨m.take (m.length - 1), by first | rfl | (congr 1; simp), by simp only [List.length_take]; omega, HM2, rfl⟩, by rw [lenOf_Sv, lenOf_Sv]; simp only [List.length_take]; omega⟩
            | false =>
              have HO := hid (show trimB s = m by unfold trimB; rw [HM.out, HD.out]; rfl)
              go_wp2_with ((go_at_call 91; refine (hb _).mono ?_; rintro e w' ⟨rfl, rfl⟩))
              go_ret
              exact ⟨by rw [HO.out]; rfl, rfl⟩
          · obtain rfl : m = [] := List.length_eq_zero_iff.1 (by omega)
            have HO := hid (show trimB s = [] by unfold trimB; rw [HM.out]; rfl)
            go_wp2_with fail
            go_ret
            exact ⟨by rw [HO.out]; rfl, rfl⟩
    · obtain rfl : l = [] := List.length_eq_zero_iff.1 (by omega)
      have HPL := hid (show ldrop s = [] by rw [HP.out]; rfl)
      clear HP
      go_wp2_with fail
      go_loopw [0] (fun v u => TrimRel2 wr s v u) (fun v _ => lenOf v)
      case atStart => exact ⟨[], rfl, hl, hid (by rw [HPL.out]), rfl⟩
      case round =>
        obtain ⟨m, rfl, hm, HM, rfl⟩ := hrel
        by_cases h2 : 1 ≤ m.length
        · have HD := hid (rdrop_at m h2)
          have hb := fun u => rblank_any (byteAt m (m.length - 1)) u
          obtain ⟨b, hbb⟩ : ∃ b, (byteAt m (m.length - 1) == 32 || byteAt m (m.length - 1) == 9) = b := ⟨_, rfl⟩
          rw [hbb] at HD
          simp only [hbb] at hb
          clear hbb
          cases b with
          | true =>
            have HM2 := hid (show rdrop (ldrop s) = rdrop (m.take (m.length - 1)) by rw [HM.out, HD.out]; rfl)
            go_wp2_with ((go_at_call 91; refine (hb _).mono ?_; rintro e w' ⟨rfl, rfl⟩))
            refine ⟨⟨m.take (m.length - 1), by first | rfl | (congr 1; simp), by simp only [List.length_take]; omega, HM2, rfl⟩, by rw [lenOf_Sv, lenOf_Sv]; simp only [List.length_take]; omega⟩
          | false =>
            have HO := hid (show trimB s = m by unfold trimB; rw [HM.out, HD.out]; rfl)
            go_wp2_with ((go_at_call 91; refine (hb _).mono ?_; rintro e w' ⟨rfl, rfl⟩))
            go_ret
            exact ⟨by rw [HO.out]; rfl, rfl⟩
        · obtain rfl : m = [] := List.length_eq_zero_iff.1 (by omega)
          have HO := hid (show trimB s = [] by unfold trimB; rw [HM.out]; rfl)
          go_wp2_with fail
          go_ret
          exact ⟨by rw [HO.out]; rfl, rfl⟩
set_option maxRecDepth 100000 in
theorem rkey44_any (s : List UInt8) (w : World) (hs : s.length ≤ 4611686018427387904) :
    Calls Tryd.prog 25 #[Sv s] w fun e w' => e = .returned (.bool (keyB s)) ∧ Below w.heap.size w w' := by
  have hle := findN_le 64 s
  have hfind : ∀ u, Calls Tryd.prog 59 #[Sv s, .int .u8 64] u fun e w' => e = .returned (.int .i64 (findN 64 s : Int)) ∧ u = w' := fun u => rfind44_any s 64 u (by omega)
  obtain ⟨K, hK⟩ : ∃ K, keyB s = K := ⟨_, rfl⟩
  rw [hK]
  unfold keyB at hK
  have HO := hid hK.symm
  clear hK
  obtain ⟨k, hk⟩ : ∃ k, findN 64 s = k := ⟨_, rfl⟩
  rw [hk] at HO hle
  simp only [hk] at hfind
  clear hk
  go_enter Tryd.func25, Tryd.ntmps25
  by_cases h : k = s.length
  · subst h
    rw [if_pos rfl] at HO
    have ha := fun u => rkeyed_any s 256 u (by omega)
    obtain ⟨b, hb⟩ : ∃ b, allB inKeyB s 256 = b := ⟨_, rfl⟩
    rw [hb] at HO
    simp only [hb] at ha
    cases b with
    | false =>
      clear hb
      go_wp2_with (first
        | (go_at_call 59; refine (hfind _).mono ?_; rintro e w2 ⟨rfl, rfl⟩)
        | (go_at_call 65; refine (ha _).mono ?_; rintro e w3 ⟨rfl, rfl⟩))
      go_ret
      exact ⟨by rw [HO.out]; rfl, Below.refl _ _⟩
    | true =>
      have h1 := allB_pos hb
      clear hb
      go_wp2_with (first
        | (go_at_call 59; refine (hfind _).mono ?_; rintro e w2 ⟨rfl, rfl⟩)
        | (go_at_call 65; refine (ha _).mono ?_; rintro e w3 ⟨rfl, rfl⟩)
        | (go_at_call 66; refine (rlet_any _ _).mono ?_; rintro e w4 ⟨rfl, rfl⟩))
      go_ret
      exact ⟨by rw [HO.out]; rfl, Below.refl _ _⟩
  · rw [if_neg h] at HO
    have qk : ((k : Int) == (s.length : Int)) = false := by rw [beq_eq_false_iff_ne]; omega
    have q1 : (0 : Int) ≤ (k : Int) ∧ (k : Int) ≤ (s.length : Int) := by omega
    have q2 : (0 : Int) ≤ (k : Int) + 1 ∧ (k : Int) + 1 ≤ (s.length : Int) := by omega
    have qw : IntKind.i64.wrap ((k : Int) + 1) = (k : Int) + 1 := IntWalk.i64_in _ (by omega)
    have q3 : ((k : Int) + 1).toNat = k + 1 := by omega
    go_upto_region 4 with ((go_at_call 59; refine (hfind _).mono ?_; rintro e w2 ⟨rfl, rfl⟩))
    refine region_steady (fun u => Below w.heap.size w u) (by kernel_rfl) (by kernel_rfl) (ext_drew _) ?_
    repeat (first
      | (refine steady_off (by rfl) ?_; try simp only [Act.put, List.setIfInBounds_toArray, List.set_cons_zero, List.set_cons_succ])
      | (refine steady_pure (v := ?_) (by rfl) ?_ ?_; rotate_left; (focus (intro u; go_simp; with_reducible rfl)); try simp only [Act.put, List.setIfInBounds_toArray, List.set_cons_zero, List.set_cons_succ]))
    refine steady_nil (fun w1 h1 => ?_)
    have HB := hid h1
    clear h1 qk q1 q2 qw q3
    have hA : (s.take k).length ≤ s.length := by simp only [List.length_take]; omega
    have hD : (s.drop (k + 1)).length ≤ s.length := by simp only [List.length_drop]; omega
    generalize s.take k = A at *
    generalize s.drop (k + 1) = D at *
    have ha := fun u => rkeyed_any A 241 u (by omega)
    have hd := fun u => rkeyed_any D 14 u (by omega)
    have hlo := fun u => rlet_any (byteAt A 0) u
    have hlo2 := fun u => rlet_any (byteAt D 0) u
    clear h hle hfind
    obtain ⟨b, hb⟩ : ∃ b, allB inKeyB A 241 = b := ⟨_, rfl⟩
    obtain ⟨d, hd0⟩ : ∃ d, allB inKeyB D 14 = d := ⟨_, rfl⟩
    obtain ⟨l, hl⟩ : ∃ l, lowK (byteAt A 0) = l := ⟨_, rfl⟩
    obtain ⟨l2, hl2⟩ : ∃ l2, lowK (byteAt D 0) = l2 := ⟨_, rfl⟩
    rw [hb, hd0, hl, hl2] at HO
    simp only [hb] at ha
    simp only [hd0] at hd
    simp only [hl] at hlo
    simp only [hl2] at hlo2
    clear hl hl2
    cases b with
    | false =>
      clear hb hd0
      go_wp2_with ((go_at_call 65; (with_reducible refine (ha _).mono ?_); rintro e w3 ⟨rfl, rfl⟩))
      go_ret
      exact ⟨by rw [HO.out]; rfl, HB.out⟩
    | true =>
      have h1 := allB_pos hb
      have HP := hid (fun h => allB_pos (hd0.trans h))
      clear hb hd0
      have HN := hid (show numK (byteAt A 0) = (decide (48 ≤ byteAt A 0) && decide (byteAt A 0 ≤ 57)) from rfl)
      cases d with
      | false =>
        have HO2 := hid (show K = false by rw [HO.out]; simp)
        cases l with
        | true =>
          go_wp2_with (first
          | (go_at_call 65; (with_reducible refine (ha _).mono ?_); rintro e w3 ⟨rfl, rfl⟩)
          | (go_at_call 66; (with_reducible refine (hlo _).mono ?_); rintro e w4 ⟨rfl, rfl⟩)
          | (go_at_call 65; (with_reducible refine (hd _).mono ?_); rintro e w5 ⟨rfl, rfl⟩)
          | (go_at_call 66; (with_reducible refine (hlo2 _).mono ?_); rintro e w6 ⟨rfl, rfl⟩))
          go_ret
          exact ⟨by rw [HO2.out]; rfl, HB.out⟩
        | false =>
          go_wp2_with (first
          | (go_at_call 65; (with_reducible refine (ha _).mono ?_); rintro e w3 ⟨rfl, rfl⟩)
          | (go_at_call 66; (with_reducible refine (hlo _).mono ?_); rintro e w4 ⟨rfl, rfl⟩)
          | (go_at_call 65; (with_reducible refine (hd _).mono ?_); rintro e w5 ⟨rfl, rfl⟩)
          | (go_at_call 66; (with_reducible refine (hlo2 _).mono ?_); rintro e w6 ⟨rfl, rfl⟩))
          all_goals go_ret
          all_goals exact ⟨by rw [HO2.out]; rfl, HB.out⟩
      | true =>
        have h2 := HP.out rfl
        cases l with
        | true =>
          go_wp2_with (first
          | (go_at_call 65; (with_reducible refine (ha _).mono ?_); rintro e w3 ⟨rfl, rfl⟩)
          | (go_at_call 66; (with_reducible refine (hlo _).mono ?_); rintro e w4 ⟨rfl, rfl⟩)
          | (go_at_call 65; (with_reducible refine (hd _).mono ?_); rintro e w5 ⟨rfl, rfl⟩)
          | (go_at_call 66; (with_reducible refine (hlo2 _).mono ?_); rintro e w6 ⟨rfl, rfl⟩))
          go_ret
          exact ⟨by rw [HO.out]; rfl, HB.out⟩
        | false =>
          go_wp2_with (first
          | (go_at_call 65; (with_reducible refine (ha _).mono ?_); rintro e w3 ⟨rfl, rfl⟩)
          | (go_at_call 66; (with_reducible refine (hlo _).mono ?_); rintro e w4 ⟨rfl, rfl⟩)
          | (go_at_call 65; (with_reducible refine (hd _).mono ?_); rintro e w5 ⟨rfl, rfl⟩)
          | (go_at_call 66; (with_reducible refine (hlo2 _).mono ?_); rintro e w6 ⟨rfl, rfl⟩))
          all_goals go_ret
          all_goals exact ⟨by rw [HO.out, HN.out]; first | rfl | (simp [*]; done) | (simp [*]; omega), HB.out⟩
end Go.Proofs.YtgfdmdikiickpaaDoor
