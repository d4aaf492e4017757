/-
  Texts for the laws of this seat, merged: StateK.
-/
import Derived.Deep.RegionHeld3
import Derived.Test.YtgfdmdikiickpaaGreatDoorMG
/-! StateK -/
namespace Go.Proofs.YtgfdmdikiickpaaGreatDoor
open Go.RowKit

theorem step_appM {w : World} {ops : Array Oper} {o : Oper} {a : Act} {K : Act → World → Prop} {Q : Exit → Act → World → Prop} {E : Prop} (hgd : o.guard = none) (s x : Operand) (Ts T : TypeId)
    (hT : Tryz.prog.underlying Ts = some (.slice T)) (hI : (Tryz.prog.info? T).map (fun i => (i.zero, i.size, i.bytes)) = some (some zM, 2, 32))
    (ho : o.op = .call { callee := .builtin .append, args := #[s, x], argTypes := #[Ts, Ts] })
    (base : Nat) (v : Value) (L : List Mb) (hs : a.eval s = v) (hown : OwnM w base T v L)
    (g c : Nat) (T' : TypeId) (m : Mb) (hx : a.eval x = .slice (some ⟨g, 0, none⟩) 1 c) (hg : Blk w g T' (mcs m)) (hl : L.length ≤ 1000000) (hbase : base ≤ w.heap.size)
    (h : ∀ v' w', OwnM w' base T v' (L ++ [m]) → w.grownBy w' v.ownBlock → K (a.put o.dst v') w') : if Region.wanted o (yielded ops a.tmps) = true then Oper.wp Tryz.prog o a w K Q else E := by
  rw [if_pos (by simp [Region.wanted, hgd])]
  obtain ⟨i0, hi, hz0, hz1, hz2⟩ := info_parts hI
  refine wp_append_own (w := w) s x _ ho base T i0 _ 2 32 hT hi hz0 hz1 hz2 rfl (by omega) v L.length (flatM L) hs hown ⟨g, 0, none⟩ 1 c (mcs m).toList hx (by rfl)
    (fun j u hu => by rw [add_zero_off, hg.cell j, ← hu]; simp) (mcs_one m) (by unfold maxLen; omega) (by omega) hbase ?_
  intro v' w' h1 h2 _
  refine h v' w' ?_ h2
  unfold OwnM
  rw [flatM_snoc, List.length_append]
  exact h1
def ReadRelR (w : World) (s : List UInt8) (v i : Value) (wr : World) : Prop := ∃ (v' : Value) (n : Nat) (acc : List Mb), v' = v ∧ i = .int .i64 (n : Int) ∧ n ≤ s.length + 1 ∧ acc.length ≤ 32 ∧ Hid (OwnM wr w.heap.size 81 v' acc) ∧ Hid (readS s = contR s n acc) ∧ Hid (Below w.heap.size w wr)
set_option maxRecDepth 100000 in
set_option maxHeartbeats 8000000 in
theorem rread44_any (s : List UInt8) (w : World) (hs : s.length ≤ 1000000000000000000) :
    Calls Tryz.prog 22 #[Sv s] w fun e w' => ∃ v, e = .returned (.tuple #[v, .int .i64 (readS s).2]) ∧ OwnM w' w.heap.size 81 v (readS s).1 ∧ Below w.heap.size w w' := by
  have HST := hid (contR_start s)
  go_enter Tryz.func22, Tryz.ntmps22
  go_wp2_with fail
  go_loopw [4, 5] (fun v i wr => ReadRelR w s v i wr) (fun _ i _ => s.length + 1 - (intOf i).toNat)
  case atStart => exact ⟨_, 0, [], rfl, rfl, by omega, by simp, OwnM.nil _ _ _, HST, Below.refl _ _⟩
  case round =>
    obtain ⟨v', n, acc, hv, rfl, hn, hacc, HW, HP, HB⟩ := hrel
    subst hv
    obtain ⟨A1, c1, hform⟩ := HW.out.len
    subst hform
    by_cases hlt : n ≤ s.length
    · have HP2 := hid (HP.out.trans (contR_step hlt acc))
      have hfind : ∀ u, Calls Tryz.prog 49 #[Sv (s.drop n), .int .u8 44] u fun e w' => e = .returned (.int .i64 (findN 44 (s.drop n) : Int)) ∧ u = w' := fun u => rfind44_any (s.drop n) 44 u (by rw [List.length_drop]; omega)
      have hfl := findN_le 44 (s.drop n)
      rw [List.length_drop] at hfl
      have hpl : ((s.drop n).take (findN 44 (s.drop n))).length ≤ s.length := by rw [List.length_take, List.length_drop]; omega
      obtain ⟨f, hf⟩ : ∃ f, findN 44 (s.drop n) = f := ⟨_, rfl⟩
      rw [hf] at HP2 hfl hpl
      simp only [hf] at hfind
      clear hf
      obtain ⟨k, hk⟩ : ∃ k, n + f = k := ⟨_, rfl⟩
      rw [hk] at HP2
      have qk : (n : Int) + (f : Int) = (k : Int) := by omega
      have qf : k - n = f := by omega
      have hkl : k ≤ s.length := by omega
      have hnk : n ≤ k := by omega
      clear hk
      have htrim := fun u => rtrim_any ((s.drop n).take f) u (by omega)
      obtain ⟨p, hp⟩ : ∃ p, (s.drop n).take f = p := ⟨_, rfl⟩
      rw [hp] at HP2 hpl
      have htl := trimB_len p
      have HS1 := hid (step_skip (acc := acc) (p := p))
      have HS2 := hid (step_form (acc := acc) (p := p))
      have HS3 := hid (step_rest (acc := acc) (p := p))
      simp only [hp] at htrim
      have HPP := hid hp
      generalize trimB p = tp at htrim htl HS1 HS2 HS3
      have htrim' : ∀ u, Calls Tryz.prog 50 #[Sv (List.take f (List.drop n s))] u fun e w' => e = .returned (Sv tp) ∧ u = w' := fun u => by rw [HPP.out]; exact htrim u
      clear htrim hp
      by_cases h0 : tp = []
      · subst h0
        have HN := hid (show readS s = contR s (k + 1) acc by rw [HP2.out, HS1.out rfl, if_pos rfl])
        clear HS1 HS2 HS3 HP2
        go_wp2_with (first
          | (go_at_call 49; refine (hfind _).mono ?_; rintro e w2 ⟨rfl, rfl⟩)
          | (go_at_call 50; refine (htrim' _).mono ?_; rintro e w2 ⟨rfl, rfl⟩))
        refine ⟨⟨_, k + 1, acc, rfl, by go_num, by omega, hacc, HW, HN, HB⟩, by simp [intOf] <;> omega⟩
      · have h0' : (tp == []) = false := by simpa using h0
        have hfind2 : ∀ u, Calls Tryz.prog 49 #[Sv tp, .int .u8 61] u fun e w' => e = .returned (.int .i64 (findN 61 tp : Int)) ∧ u = w' := fun u => rfind44_any tp 61 u (by omega)
        have hel := findN_le 61 tp
        have HS2' := hid (HS2.out h0)
        have HS3' := hid (HS3.out h0)
        clear HS1 HS2 HS3 h0
        obtain ⟨e, he⟩ : ∃ e, findN 61 tp = e := ⟨_, rfl⟩
        rw [he] at HS2' HS3' hel
        simp only [he] at hfind2
        clear he
        have hkey := fun u => rkey44_any (tp.take e) u (by rw [List.length_take]; omega)
        have hval := fun u => rvalue44_any (tp.drop (e + 1)) u (by rw [List.length_drop]; omega)
        obtain ⟨K, hK⟩ : ∃ K, keyB (tp.take e) = K := ⟨_, rfl⟩
        obtain ⟨V, hV⟩ : ∃ V, valB (tp.drop (e + 1)) = V := ⟨_, rfl⟩
        rw [hK, hV] at HS2' HS3'
        simp only [hK] at hkey
        simp only [hV] at hval
        clear hK hV
        have hhas := fun u (hu : Below wr.heap.size wr u) => rget44_any A1 c1 acc (tp.take e) u ((HW.out.ext hu).mbs_) (by omega)
        by_cases hee : e = tp.length
        · have HE := hid (show readS s = ([], 3) by rw [HP2.out, HS2'.out (by omega)]; rfl)
          have qe : ((e : Int) == (tp.length : Int)) = true := by rw [hee]; simp
          clear HP2 HS2' HS3' hee hhas
          go_wp2_with (first
            | (go_at_call 49; (with_reducible refine (hfind _).mono ?_); rintro e' w2 ⟨rfl, rfl⟩)
            | (go_at_call 50; (with_reducible refine (htrim' _).mono ?_); rintro e' w2 ⟨rfl, rfl⟩)
            | (go_at_call 49; (with_reducible refine (hfind2 _).mono ?_); rintro e' w2 ⟨rfl, rfl⟩)
            | (go_at_call 51; (with_reducible refine (hkey _).mono ?_); rintro e' w4 ⟨rfl, hb4⟩; have HR4 := hid hb4; clear hb4)
            | (go_at_call 52; (with_reducible refine (hval _).mono ?_); rintro e' w2 ⟨rfl, rfl⟩)
            | (go_at_call 53; (with_reducible refine (HHAS.out _ HR4.out).mono ?_); rintro e' w2 ⟨rfl, rfl⟩))
          go_ret2
          exact ⟨_, by rw [HE.out]; rfl, by rw [HE.out]; exact OwnM.nil _ _ _, HB.out⟩
        · have qe : ((e : Int) == (tp.length : Int)) = false := by rw [beq_eq_false_iff_ne]; omega
          have hlt2 : e < tp.length := by omega
          have q1 : (0 : Int) ≤ (e : Int) ∧ (e : Int) ≤ (tp.length : Int) := by omega
          have q2 : (0 : Int) ≤ (e : Int) + 1 ∧ (e : Int) + 1 ≤ (tp.length : Int) := by omega
          have qw : IntKind.i64.wrap ((e : Int) + 1) = (e : Int) + 1 := IntWalk.i64_in _ (by omega)
          have q3 : ((e : Int) + 1).toNat = e + 1 := by omega
          clear hee
          cases K with
          | false =>
            have HE := hid (show readS s = ([], 3) by rw [HP2.out, HS2'.out (by simp)]; rfl)
            clear HP2 HS2' HS3' hhas
            go_wp2_with (first
              | (go_at_call 49; (with_reducible refine (hfind _).mono ?_); rintro e' w2 ⟨rfl, rfl⟩)
              | (go_at_call 50; (with_reducible refine (htrim' _).mono ?_); rintro e' w2 ⟨rfl, rfl⟩)
              | (go_at_call 49; (with_reducible refine (hfind2 _).mono ?_); rintro e' w2 ⟨rfl, rfl⟩)
              | (go_at_call 51; (with_reducible refine (hkey _).mono ?_); rintro e' w4 ⟨rfl, hb4⟩; have HR4 := hid hb4; clear hb4)
              | (go_at_call 52; (with_reducible refine (hval _).mono ?_); rintro e' w2 ⟨rfl, rfl⟩)
              | (go_at_call 53; (with_reducible refine (HHAS.out _ HR4.out).mono ?_); rintro e' w2 ⟨rfl, rfl⟩))
            go_ret2
            exact ⟨_, by rw [HE.out]; rfl, by rw [HE.out]; exact OwnM.nil _ _ _, HB.out.trans (HR4.out.mono HB.out.size)⟩
          | true =>
            cases V with
            | false =>
              have HE := hid (show readS s = ([], 3) by rw [HP2.out, HS2'.out (by simp)]; rfl)
              clear HP2 HS2' HS3' hhas
              go_wp2_with (first
                | (go_at_call 49; (with_reducible refine (hfind _).mono ?_); rintro e' w2 ⟨rfl, rfl⟩)
                | (go_at_call 50; (with_reducible refine (htrim' _).mono ?_); rintro e' w2 ⟨rfl, rfl⟩)
                | (go_at_call 49; (with_reducible refine (hfind2 _).mono ?_); rintro e' w2 ⟨rfl, rfl⟩)
                | (go_at_call 51; (with_reducible refine (hkey _).mono ?_); rintro e' w4 ⟨rfl, hb4⟩; have HR4 := hid hb4; clear hb4)
                | (go_at_call 52; (with_reducible refine (hval _).mono ?_); rintro e' w2 ⟨rfl, rfl⟩)
                | (go_at_call 53; (with_reducible refine (HHAS.out _ HR4.out).mono ?_); rintro e' w2 ⟨rfl, rfl⟩))
              go_ret2
              exact ⟨_, by rw [HE.out]; rfl, by rw [HE.out]; exact OwnM.nil _ _ _, HB.out.trans (HR4.out.mono HB.out.size)⟩
            | true =>
              have HS := hid (HS3'.out hlt2 rfl rfl)
              clear HS2' HS3'
              obtain ⟨H, hH⟩ : ∃ H, hasM acc (tp.take e) = H := ⟨_, rfl⟩
              obtain ⟨G, hG⟩ : ∃ G, getM acc (tp.take e) = G := ⟨_, rfl⟩
              rw [hH] at HS
              simp only [hH, hG] at hhas
              have HHAS := hid hhas
              clear hhas hH hG
              cases H with
              | true =>
                have HE := hid (show readS s = ([], 8) by rw [HP2.out, HS.out, if_pos rfl]; rfl)
                clear HP2 HS
                go_wp2_with (first
                  | (go_at_call 49; (with_reducible refine (hfind _).mono ?_); rintro e' w2 ⟨rfl, rfl⟩)
                  | (go_at_call 50; (with_reducible refine (htrim' _).mono ?_); rintro e' w2 ⟨rfl, rfl⟩)
                  | (go_at_call 49; (with_reducible refine (hfind2 _).mono ?_); rintro e' w2 ⟨rfl, rfl⟩)
                  | (go_at_call 51; (with_reducible refine (hkey _).mono ?_); rintro e' w4 ⟨rfl, hb4⟩; have HR4 := hid hb4; clear hb4)
                  | (go_at_call 52; (with_reducible refine (hval _).mono ?_); rintro e' w2 ⟨rfl, rfl⟩)
                  | (go_at_call 53; (with_reducible refine (HHAS.out _ HR4.out).mono ?_); rintro e' w2 ⟨rfl, rfl⟩))
                go_ret2
                exact ⟨_, by rw [HE.out]; rfl, by rw [HE.out]; exact OwnM.nil _ _ _, HB.out.trans (HR4.out.mono HB.out.size)⟩
              | false =>
                have HS' := hid (show stepS acc p = if acc.length = 32 then ([], 34) else (acc ++ [(tp.take e, tp.drop (e + 1))], 0) by rw [HS.out, if_neg (by simp)])
                clear HS
                by_cases h32 : acc.length = 32
                · have HE := hid (show readS s = ([], 34) by rw [HP2.out, HS'.out, if_pos h32]; rfl)
                  clear HP2 HS'
                  have q32 : ((acc.length : Int) == 32) = true := by rw [h32]; rfl
                  clear h32
                  go_wp2_with (first
                    | (go_at_call 49; (with_reducible refine (hfind _).mono ?_); rintro e' w2 ⟨rfl, rfl⟩)
                    | (go_at_call 50; (with_reducible refine (htrim' _).mono ?_); rintro e' w2 ⟨rfl, rfl⟩)
                    | (go_at_call 49; (with_reducible refine (hfind2 _).mono ?_); rintro e' w2 ⟨rfl, rfl⟩)
                    | (go_at_call 51; (with_reducible refine (hkey _).mono ?_); rintro e' w4 ⟨rfl, hb4⟩; have HR4 := hid hb4; clear hb4)
                    | (go_at_call 52; (with_reducible refine (hval _).mono ?_); rintro e' w2 ⟨rfl, rfl⟩)
                    | (go_at_call 53; (with_reducible refine (HHAS.out _ HR4.out).mono ?_); rintro e' w2 ⟨rfl, rfl⟩))
                  go_ret2
                  exact ⟨_, by rw [HE.out]; rfl, by rw [HE.out]; exact OwnM.nil _ _ _, HB.out.trans (HR4.out.mono HB.out.size)⟩
                · have HN := hid (show readS s = contR s (k + 1) (acc ++ [(tp.take e, tp.drop (e + 1))]) by rw [HP2.out, HS'.out, if_neg h32, if_pos rfl])
                  clear HP2 HS'
                  have q32 : ((acc.length : Int) == 32) = false := by rw [beq_eq_false_iff_ne]; omega
                  have hal : acc.length ≤ 31 := by omega
                  have hkl2 : acc.length ≤ 1000000 := by omega
                  clear h32
                  go_upto_region 17 with (first
                    | (go_at_call 49; (with_reducible refine (hfind _).mono ?_); rintro e' w2 ⟨rfl, rfl⟩)
                    | (go_at_call 50; (with_reducible refine (htrim' _).mono ?_); rintro e' w2 ⟨rfl, rfl⟩)
                    | (go_at_call 49; (with_reducible refine (hfind2 _).mono ?_); rintro e' w2 ⟨rfl, rfl⟩)
                    | (go_at_call 51; (with_reducible refine (hkey _).mono ?_); rintro e' w4 ⟨rfl, hb4⟩; have HR4 := hid hb4; clear hb4)
                    | (go_at_call 52; (with_reducible refine (hval _).mono ?_); rintro e' w2 ⟨rfl, rfl⟩)
                    | (go_at_call 53; (with_reducible refine (HHAS.out _ HR4.out).mono ?_); rintro e' w2 ⟨rfl, rfl⟩))
                  have hr6 := HR4.out.trans ((ext_drew w4).mono HR4.out.size)
                  have HR6 := hid hr6
                  clear hr6
                  generalize hkey2 : tp.take e = key at *
                  generalize hval2 : tp.drop (e + 1) = value at *
                  have HO7 := hid (HW.out.ext (ext_trans HR6.out (ext_alloc w4.drew (.cells #[Sv key, Sv value] 81))))
                  have HBK := hid (Blk.new w4.drew 81 (mcs (key, value)))
                  have HB6 := hid (HB.out.trans (HR6.out.mono HB.out.size))
                  have HB7 := hid (HB6.out.alloc HB6.out.size (.cells #[Sv key, Sv value] 81))
                  go_region_held3 (fun _ => True) (trivial) ((refine step_appM rfl (.tmp 64) (.tmp 73) _ _ Tryz.underlying38 info_rm rfl w.heap.size (.slice A1 acc.length c1) acc rfl HO7.out w4.heap.size 1 81 (key, value) rfl HBK.out hkl2 HB7.out.size ?_; intro v8 w8 hown8 hg8; have HO8 := hid hown8; have HG8 := hid hg8; clear hown8 hg8))
                  go_wp2_with fail
                  refine ⟨⟨v8, k + 1, acc ++ [(key, value)], rfl, by go_num, by omega, by simp; omega, HO8, HN, hid (Below.grown HB7.out HG8.out HB7.out.size (fun k hk => (World.ownsRow.lt HO7.out k hk).1))⟩, by simp [intOf] <;> omega⟩
    · have HE := hid (show readS s = (acc, 0) by rw [HP.out, contR_end (by omega)])
      go_wp2_with fail
      go_ret2
      exact ⟨_, by rw [HE.out]; rfl, by rw [HE.out]; exact HW.out, HB.out⟩
end Go.Proofs.YtgfdmdikiickpaaGreatDoor
