/-
  Walks of package state and its reference: Text.
-/
import Derived.Test.YtgfdmdikiickpaaDoorMembs
import Derived.Test.YtgfdmdikiickpaaDoorStateD
import Derived.Test.YtgfdmdikiickpaaDoorOwnS
import Derived.Test.YtgfdmdikiickpaaDoorToken
namespace Go.Proofs.YtgfdmdikiickpaaDoor
open Go.RowKit

/-- The letters of all members. -/
def sizeM (L : List Mb) : Nat := (L.map fun m => m.1.length + m.2.length).sum
theorem sizeM_snoc (L : List Mb) (m : Mb) : sizeM (L ++ [m]) = sizeM L + (m.1.length + m.2.length) := by simp [sizeM]
theorem sizeM_take (L : List Mb) (k : Nat) : sizeM (L.take k) ≤ sizeM L := by
  have e : sizeM L = sizeM (L.take k) + sizeM (L.drop k) := by
    unfold sizeM
    rw [← List.sum_append, ← List.map_append, List.take_append_drop]
  omega
theorem memT_len (m : Mb) : (memT m).length = m.1.length + m.2.length + 1 := by unfold memT; simp; omega
theorem textS_len : ∀ L : List Mb, (textS L).length ≤ sizeM L + 2 * L.length
  | [] => by simp [textS, Lib.join, List.intercalate]
  | m :: L => by
    have ih := textS_len L
    have e : textS (m :: L) = memT m ++ (if L = [] then [] else 44 :: textS L) := by
      cases L with
      | nil => simp [textS, Lib.join, List.intercalate]
      | cons n r => unfold textS Lib.join; simp [List.intercalate, List.intersperse]
    rw [e, List.length_append, memT_len]
    have e2 : sizeM (m :: L) = m.1.length + m.2.length + sizeM L := by simp [sizeM]
    rw [e2, List.length_cons]
    split
    · simp; omega
    · simp only [List.length_cons]; omega
def TxtRel (w : World) (L : List Mb) (v i : Value) (wr : World) : Prop := ∃ (v' : Value) (k : Nat), v' = v ∧ i = .int .i64 (k : Int) ∧ k ≤ L.length ∧ Hid (OwnS wr w.heap.size v' ((L.take k).map memT)) ∧ Hid (Below w.heap.size w wr)
set_option maxRecDepth 100000 in
set_option maxHeartbeats 4000000 in
theorem stext_any (A : Option Addr) (cap : Nat) (L : List Mb) (w : World) (h : Mbs w w.heap.size A L) (hl : L.length ≤ 100000) (hsz : sizeM L ≤ 1000000000000) :
    Calls Tryd.prog 28 #[.slice A L.length cap] w fun e w' => e = .returned (Sv (textS L)) ∧ Below w.heap.size w w' := by
  have HO := hid h
  have HTL := hid (textS_len L)
  clear h
  go_enter Tryd.func28, Tryd.ntmps28
  go_wp2_with fail
  try simp only [string_Sv]
  go_loopw [3, 8] (fun v i wr => TxtRel w L v i wr) (fun _ i _ => L.length - (intOf i).toNat)
  case atStart => exact ⟨_, 0, rfl, rfl, Nat.zero_le _, OwnS.nil _ _, Below.refl _ _⟩
  case round =>
    obtain ⟨v', k, hv, rfl, hk, HW, HB⟩ := hrel
    subst hv
    by_cases hlt : k < L.length
    · obtain ⟨m, hm⟩ := get_lt hlt
      obtain ⟨ad, hA, p0, p1⟩ := (HO.out.below HB.out).at_ hm
      have hm1 : m.1.length + m.2.length ≤ sizeM L := by
        have e1 := sizeM_take L (k + 1)
        rw [take_snoc_at hm, sizeM_snoc] at e1
        omega
      have HM := hid hm
      clear hm
      subst hA
      have qi : (0 : Int) ≤ (k : Int) ∧ (k : Int) < (L.length : Int) := by omega
      have hl1 : m.1.length ≤ 1000000000000 := by omega
      have hl2 : m.2.length ≤ 1000000000000 := by omega
      have HB3 := hid (HB.out.alloc HB.out.size (.cells #[Sv m.1, Sv m.2] 92))
      have HW3 := hid (HW.out.ext (ext_alloc wr (.cells #[Sv m.1, Sv m.2] 92)))
      have HE := hid (show memT m = m.1 ++ 61 :: m.2 from rfl)
      have HW7 := hid (HW3.out.ext (ext_alloc _ (.cells #[Sv (memT m)] 9)))
      have HB7 := hid (HB3.out.alloc HB3.out.size (.cells #[Sv (memT m)] 9))
      have HC7 := hid (show ((wr.alloc (.cells #[Sv m.1, Sv m.2] 92)).alloc (.cells #[Sv (memT m)] 9)).cell? ⟨wr.heap.size + 1, 0, none⟩ = some (Sv (memT m)) by have h := (Blk.new (wr.alloc (.cells #[Sv m.1, Sv m.2] 92)) 9 #[Sv (memT m)]).cell 0; rw [size_alloc] at h; exact h)
      rw [HE.out] at HW7 HB7 HC7
      have hcl : ((L.take k).map memT).length + 1 ≤ 8796093022208 := by rw [List.length_map, List.length_take]; omega
      go_wp2_with (refine wpList_appS rfl rfl w.heap.size v' ((L.take k).map memT) rfl HW7.out (m.1 ++ 61 :: m.2) rfl HC7.out hcl HB7.out.size ?_; intro v8 w8 hown8 hg8; have HO8 := hid hown8; have HB8 := hid (show Below w.heap.size w w8 from Below.grown HB7.out hg8 HB7.out.size (fun k hk => (World.ownsRow.lt HW7.out k hk).1)); clear hown8 hg8)
      refine ⟨⟨v8, k + 1, rfl, by go_num, hlt, hid ?_, HB8⟩, by simp [intOf] <;> omega⟩
      rw [take_snoc_at HM.out, List.map_append, List.map_singleton, HE.out]; exact HO8.out
    · obtain rfl : k = L.length := by omega
      have HW := hid (show OwnS wr w.heap.size v' (L.map memT) by have := HW.out; rwa [List.take_length] at this)
      rcases HW.out.form with ⟨hnil, hv0⟩ | ⟨g, c, hv0, hg, hle, hcm⟩
      · have HE := hid (show textS L = [] by unfold textS; rw [hnil]; simp [Lib.join, List.intercalate])
        subst hv0
        clear hnil
        go_wp2_with fail
        refine (sjoin_none none 0 [44] _).mono ?_; rintro e w2 ⟨rfl, rfl⟩
        go_wp2_with fail
        go_ret
        exact ⟨by rw [HE.out]; rfl, HB.out⟩
      · subst hv0
        have hj := sjoin_any g c (L.map memT) [44] wr (fun j x hx => HW.out.at_ rfl hx) (World.ownsRow.lt HW.out g rfl).2 (by rw [List.length_map]; omega) hle (by show (textS L).length ≤ _; have := HTL.out; omega)
        have hj' : Calls Tryd.prog 68 #[.slice (some ⟨g, 0, none⟩) (L.map memT).length c, Sv [44]] wr fun e w' => e = .returned (Sv (textS L)) ∧ Below wr.heap.size wr w' := hj
        clear hj
        obtain ⟨T, hT⟩ : ∃ T, textS L = T := ⟨_, rfl⟩
        rw [hT] at hj'
        have HT := hid hT
        clear hT
        generalize (L.map memT).length = N at hj' ⊢
        go_wp2_with fail
        refine hj'.mono ?_; rintro e w2 ⟨rfl, hb2⟩
        have HB2 := hid (HB.out.trans (hb2.mono HB.out.size))
        clear hb2 hj'
        go_wp2_with fail
        go_ret
        exact ⟨by rw [HT.out]; rfl, HB2.out⟩
def TxtRelR (w : World) (L : List Mb) (v i : Value) (wr : World) : Prop := ∃ (T : List UInt8) (k : Nat), v = Sv T ∧ i = .int .i64 (k : Int) ∧ k ≤ L.length ∧ Hid (T = textS (L.take k)) ∧ Hid (Below w.heap.size w wr)
theorem load_sv {w : World} {p : Addr} {s : List UInt8} (h : w.cell? p = some (Sv s)) : (Instr.loadAt 9 (.pointer (some p))).run Tryd.prog w = .ok (Sv s) w := by go_simp
theorem list_no {α : Type} {L : List α} {k : Nat} (h : k < L.length) (h0 : k ≠ 0) : L.take k ≠ [] := by
  intro e
  have := congrArg List.length e
  rw [List.length_take, List.length_nil] at this
  omega
set_option maxRecDepth 100000 in
set_option maxHeartbeats 4000000 in
theorem rtext44_any (A : Option Addr) (cap : Nat) (L : List Mb) (w : World) (h : Mbs w w.heap.size A L) (hl : L.length ≤ 100000) (hsz : sizeM L ≤ 1000000000000000000) :
    Calls Tryd.prog 30 #[.slice A L.length cap] w fun e w' => e = .returned (Sv (textS L)) ∧ Below w.heap.size w w' := by
  have HO := hid h
  clear h
  go_enter Tryd.func30, Tryd.ntmps30
  go_wp2_with fail
  try simp only [string_Sv]
  go_loopw [3, 4] (fun v i wr => TxtRelR w L v i wr) (fun _ i _ => L.length - (intOf i).toNat)
  case atStart => exact ⟨[], 0, rfl, rfl, Nat.zero_le _, hid rfl, Below.refl _ _⟩
  case round =>
    obtain ⟨T, k, rfl, rfl, hk, HT, HB⟩ := hrel
    have hTl : T.length ≤ sizeM L + 2 * L.length := by
      rw [HT.out]
      have e1 := textS_len (L.take k)
      have e2 := sizeM_take L k
      rw [List.length_take] at e1
      omega
    by_cases hlt : k < L.length
    · obtain ⟨m, hm⟩ := get_lt hlt
      obtain ⟨ad, hA, p0, p1⟩ := (HO.out.below HB.out).at_ hm
      have hm1 : m.1.length + m.2.length ≤ sizeM L := by
        have e1 := sizeM_take L (k + 1)
        rw [take_snoc_at hm, sizeM_snoc] at e1
        omega
      have HM := hid hm
      clear hm p0 p1
      subst hA
      have qi : (0 : Int) ≤ (k : Int) ∧ (k : Int) < (L.length : Int) := by omega
      by_cases h0 : k = 0
      · subst h0
        have hT0 : T = [] := HT.out
        subst hT0
        have HT2 := hid (show textS (L.take 1) = [] ++ m.1 ++ [61] ++ m.2 by rw [take_snoc_at HM.out, textS_snoc]; simp [memT])
        go_upto_region 7 with fail
        refine region_steady (fun u => Below w.heap.size w u) (by kernel_rfl) (by kernel_rfl) (HB.out.trans ((ext_drew wr).mono HB.out.size)) ?_
        repeat (first
          | (refine steady_off (by rfl) ?_; try simp only [Act.put, List.setIfInBounds_toArray, List.set_cons_zero, List.set_cons_succ])
          | (refine steady_pure (v := ?_) (by rfl) ?_ ?_; rotate_left; (focus (intro u; go_simp; with_reducible rfl)); try simp only [Act.put, List.setIfInBounds_toArray, List.set_cons_zero, List.set_cons_succ]))
        refine steady_load (v := Sv m.1) 9 (.tmp 19) rfl (by rfl) (fun u h => by
          obtain ⟨a, ha, c0, c1⟩ := (HO.out.below h).at_ HM.out
          obtain rfl := Option.some.inj ha
          exact load_sv c0) ?_
        try simp only [Act.put, List.setIfInBounds_toArray, List.set_cons_zero, List.set_cons_succ]
        (refine steady_add _ _ _ _ rfl (by rfl) (by rfl) ?_ (by rfl) ?_; (focus (simp only [List.length_append, List.length_cons, List.length_nil, List.length_take, List.length_drop]; omega)); try simp only [Act.put, List.setIfInBounds_toArray, List.set_cons_zero, List.set_cons_succ])
        (refine steady_add _ _ _ _ rfl (by rfl) (by rfl) ?_ (by rfl) ?_; (focus (simp only [List.length_append, List.length_cons, List.length_nil, List.length_take, List.length_drop]; omega)); try simp only [Act.put, List.setIfInBounds_toArray, List.set_cons_zero, List.set_cons_succ])
        repeat (first
          | (refine steady_off (by rfl) ?_; try simp only [Act.put, List.setIfInBounds_toArray, List.set_cons_zero, List.set_cons_succ])
          | (refine steady_pure (v := ?_) (by rfl) ?_ ?_; rotate_left; (focus (intro u; go_simp; with_reducible rfl)); try simp only [Act.put, List.setIfInBounds_toArray, List.set_cons_zero, List.set_cons_succ]))
        refine steady_load (v := Sv m.2) 9 (.tmp 26) rfl (by rfl) (fun u h => by
          obtain ⟨a, ha, c0, c1⟩ := (HO.out.below h).at_ HM.out
          obtain rfl := Option.some.inj ha
          exact load_sv c1) ?_
        try simp only [Act.put, List.setIfInBounds_toArray, List.set_cons_zero, List.set_cons_succ]
        (refine steady_add _ _ _ _ rfl (by rfl) (by rfl) ?_ (by rfl) ?_; (focus (simp only [List.length_append, List.length_cons, List.length_nil, List.length_take, List.length_drop]; omega)); try simp only [Act.put, List.setIfInBounds_toArray, List.set_cons_zero, List.set_cons_succ])
        repeat (first
          | (refine steady_off (by rfl) ?_; try simp only [Act.put, List.setIfInBounds_toArray, List.set_cons_zero, List.set_cons_succ])
          | (refine steady_pure (v := ?_) (by rfl) ?_ ?_; rotate_left; (focus (intro u; go_simp; with_reducible rfl)); try simp only [Act.put, List.setIfInBounds_toArray, List.set_cons_zero, List.set_cons_succ]))
        refine steady_nil (fun w1 h1 => ?_)
        have HB1 := hid h1
        clear h1
        go_wp2_with fail
        refine ⟨⟨_, 1, rfl, by go_num, hlt, hid (by rw [HT2.out]; try simp), HB1⟩, by simp [intOf] <;> omega⟩
      · have HT2 := hid (show textS (L.take (k + 1)) = T ++ [44] ++ m.1 ++ [61] ++ m.2 by rw [take_snoc_at HM.out, textS_snoc, if_neg (list_no hlt h0), HT.out]; simp [memT])
        have hk0 : 0 < k := by omega
        have hk1 : (0 : Int) < (k : Int) := by omega
        go_upto_region 7 with fail
        refine region_steady (fun u => Below w.heap.size w u) (by kernel_rfl) (by kernel_rfl) (HB.out.trans ((ext_drew wr).mono HB.out.size)) ?_
        repeat (first
          | (refine steady_off (by rfl) ?_; try simp only [Act.put, List.setIfInBounds_toArray, List.set_cons_zero, List.set_cons_succ])
          | (refine steady_pure (v := ?_) (by rfl) ?_ ?_; rotate_left; (focus (intro u; go_simp; with_reducible rfl)); try simp only [Act.put, List.setIfInBounds_toArray, List.set_cons_zero, List.set_cons_succ]))
        refine steady_load (v := Sv m.1) 9 (.tmp 19) rfl (by rfl) (fun u h => by
          obtain ⟨a, ha, c0, c1⟩ := (HO.out.below h).at_ HM.out
          obtain rfl := Option.some.inj ha
          exact load_sv c0) ?_
        try simp only [Act.put, List.setIfInBounds_toArray, List.set_cons_zero, List.set_cons_succ]
        (refine steady_add _ _ _ _ rfl (by rfl) (by rfl) ?_ (by rfl) ?_; (focus (simp only [List.length_append, List.length_cons, List.length_nil, List.length_take, List.length_drop]; omega)); try simp only [Act.put, List.setIfInBounds_toArray, List.set_cons_zero, List.set_cons_succ])
        (refine steady_add _ _ _ _ rfl (by rfl) (by rfl) ?_ (by rfl) ?_; (focus (simp only [List.length_append, List.length_cons, List.length_nil, List.length_take, List.length_drop]; omega)); try simp only [Act.put, List.setIfInBounds_toArray, List.set_cons_zero, List.set_cons_succ])
        repeat (first
          | (refine steady_off (by rfl) ?_; try simp only [Act.put, List.setIfInBounds_toArray, List.set_cons_zero, List.set_cons_succ])
          | (refine steady_pure (v := ?_) (by rfl) ?_ ?_; rotate_left; (focus (intro u; go_simp; with_reducible rfl)); try simp only [Act.put, List.setIfInBounds_toArray, List.set_cons_zero, List.set_cons_succ]))
        refine steady_load (v := Sv m.2) 9 (.tmp 26) rfl (by rfl) (fun u h => by
          obtain ⟨a, ha, c0, c1⟩ := (HO.out.below h).at_ HM.out
          obtain rfl := Option.some.inj ha
          exact load_sv c1) ?_
        try simp only [Act.put, List.setIfInBounds_toArray, List.set_cons_zero, List.set_cons_succ]
        (refine steady_add _ _ _ _ rfl (by rfl) (by rfl) ?_ (by rfl) ?_; (focus (simp only [List.length_append, List.length_cons, List.length_nil, List.length_take, List.length_drop]; omega)); try simp only [Act.put, List.setIfInBounds_toArray, List.set_cons_zero, List.set_cons_succ])
        repeat (first
          | (refine steady_off (by rfl) ?_; try simp only [Act.put, List.setIfInBounds_toArray, List.set_cons_zero, List.set_cons_succ])
          | (refine steady_pure (v := ?_) (by rfl) ?_ ?_; rotate_left; (focus (intro u; go_simp; with_reducible rfl)); try simp only [Act.put, List.setIfInBounds_toArray, List.set_cons_zero, List.set_cons_succ]))
        refine steady_nil (fun w1 h1 => ?_)
        have HB1 := hid h1
        clear h1
        go_wp2_with fail
        refine ⟨⟨_, k + 1, rfl, by go_num, hlt, hid (by rw [HT2.out]; try simp), HB1⟩, by simp [intOf] <;> omega⟩
    · obtain rfl : k = L.length := by omega
      have HT2 := hid (show textS L = T by rw [HT.out, List.take_length])
      go_wp2_with fail
      go_ret
      exact ⟨by rw [HT2.out]; rfl, HB.out⟩
end Go.Proofs.YtgfdmdikiickpaaDoor
