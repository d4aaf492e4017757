/-
  Texts for the laws of this seat, merged: OpenHs, CarryT.
-/
import Derived.Test.YtgfdmdikiickpaaGreatDoorMM
import Derived.Test.YtgfdmdikiickpaaGreatDoorMN
import Derived.Test.YtgfdmdikiickpaaGreatDoorMS
import Derived.Test.YtgfdmdikiickpaaGreatDoorMU
/-! OpenHs -/
namespace Go.Proofs.YtgfdmdikiickpaaGreatDoor
open Go.ChangeShapes Go.WideShapes Go.Deep Go.RowKit

set_option maxRecDepth 100000 in
theorem open_Sltruchmanref46Header {H : Type} {enc : TypeId × Value → H} {W : World} {base : Nat} {v : Value} {d : DataW H} {p : List MemPlace}
    (hv : Value.okWide Tryz.prog W .any base 22 v) (h : DataW.Trod enc Tryz.prog W 0 (fun _ => true) true 22 v d p) :
    ∃ L : List Mb, (∃ A cap, v = .slice A L.length cap ∧ L.length ≤ cap ∧ cap ≤ 9223372036854775807 ∧ Mbs W W.heap.size A L) ∧ OfMb d L := by
  obtain ⟨a, len, cap, rfl⟩ := okWide_slice Tryz.underlying22 hv
  obtain ⟨fuel, hf⟩ := h
  rcases open_slice_fields Tryz.underlying22 Tryz.underlying24 (by kernel_rfl) (by kernel_rfl) hf with ⟨hcs, hx⟩ | ⟨x, len', cap', m, D, Pl, hcs, _, hl, hm, hmm, hx, hi⟩
  · simp [Value.cells] at hcs
    obtain ⟨rfl, rfl, rfl⟩ := hcs
    simp only [Prod.mk.injEq] at hx
    exact ⟨[], ⟨none, 0, rfl, Nat.le_refl _, by omega, Mbs.nil W W.heap.size none⟩, .inl ⟨rfl, hx.1⟩⟩
  · simp [Value.cells] at hcs
    obtain ⟨rfl, rfl, rfl⟩ := hcs
    simp only [if_true] at hmm
    simp only [Prod.mk.injEq] at hx
    have hall : ∀ i, i < len → ∃ F : Mb, D i = ofMb F ∧ ∀ q u, (mcs F)[q]? = some u → W.cell? (x.add (i * 2 + q)) = some u := by
      intro i hil
      obtain ⟨ys, n, hD, _, hyl, hfs⟩ := hi i (by omega)
      obtain ⟨v0, y0, c0, e0, t0⟩ := hfs 0 _ rfl
      obtain ⟨v1, y1, c1, e1, t1⟩ := hfs 1 _ rfl
      obtain ⟨s', f0, g0, _⟩ := DataW.trod_string Tryz.underlying9 t0
      obtain ⟨r', f1, g1, _⟩ := DataW.trod_string Tryz.underlying9 t1
      simp at f0 f1
      subst f0 f1 g0 g1
      have hyl2 : ys.length = 2 := hyl
      refine ⟨(s'.data.toList, r'.data.toList), ?_, fun q u hu => ?_⟩
      · rw [hD]
        match ys, hyl2, e0, e1 with
        | [a, b], _, e0, e1 =>
          simp at e0 e1
          subst e0 e1
          rfl
      · match q, hu with
        | 0, hu => rw [show u = .string s' from (Option.some.inj hu).symm]; exact c0
        | 1, hu => rw [show u = .string r' from (Option.some.inj hu).symm]; exact c1
        | q + 2, hu => simp [mcs] at hu
    obtain ⟨f, hff⟩ : ∃ f : Nat → Mb, ∀ i, i < len → D i = ofMb (f i) ∧ ∀ q u, (mcs (f i))[q]? = some u → W.cell? (x.add (i * 2 + q)) = some u :=
      ⟨fun i => if hi : i < len then Classical.choose (hall i hi) else ([], []), fun i hi => by simp only [dif_pos hi]; exact Classical.choose_spec (hall i hi)⟩
    refine ⟨(List.range len).map f, ⟨some x, cap, by simp, by simpa using hl, by unfold maxLen at hm; omega, fun k F hF => ?_⟩, .inr ⟨(List.range (m - len)).map fun j => D (len + j), ?_⟩⟩
    · have hk : k < len := by
        rcases Nat.lt_or_ge k len with h | h
        · exact h
        · rw [List.getElem?_eq_none (by simpa using h)] at hF; cases hF
      have e : f k = F := by simpa [hk] using hF
      subst e
      refine ⟨x, rfl, ?_, (hff k hk).2⟩
      have := World.block_lt_of_cell? W _ ((hff k hk).2 0 _ rfl)
      rwa [block_of_add] at this
    · rw [hx.1, List.map_map]
      congr 1
      apply List.map_congr_left
      intro i hi
      exact (hff i (by simpa using hi)).1
set_option maxRecDepth 100000 in
theorem hd_sized {H : Type} {ts : List TypeId} {ds : List (DataW H)} (h : (DataW.weightsEach Tryz.prog ts ds).all (· ≤ reachBytes) = true) {j : Nat} {d : DataW H} (ht : ts[j]? = some 22) (hd : ds[j]? = some d) {L : List Mb} (hL : OfMb d L) :
    ∀ m ∈ L, m.1.length ≤ 140737488355328 ∧ m.2.length ≤ 140737488355328 := by
  intro m hm
  rcases hL with ⟨rfl, _⟩ | ⟨spare, rfl⟩
  · simp at hm
  · have hb := reachBytes_lt
    have key : ∀ n ∈ (ofMb (H := H) m).weights Tryz.prog 24, n ≤ reachBytes := by
      intro n hn
      have h1 : n ∈ DataW.weights Tryz.prog 22 (.slice (L.map ofMb) spare : DataW H) := by
        unfold DataW.weights
        rw [Tryz.underlying22]
        exact List.mem_cons_of_mem _ (List.mem_append_left _ (mem_weightsAll (List.mem_map.2 ⟨m, hm, rfl⟩) n hn))
      have := List.all_eq_true.1 h _ (DataW.weights_mem_each ht hd n h1)
      simpa using this
    have hw : (ofMb (H := H) m).weights Tryz.prog 24 = [m.1.length, m.2.length] := by
      unfold ofMb DataW.weights
      rw [Tryz.underlying24]
      rfl
    rw [hw] at key
    have k1 := key m.1.length (by simp)
    have k2 := key m.2.length (by simp)
    omega
end Go.Proofs.YtgfdmdikiickpaaGreatDoor

/-! CarryT -/
namespace Go.Proofs.YtgfdmdikiickpaaGreatDoor
open Go.RowKit

def TkRel (w : World) (L : List Mb) (i : Value) (wr : World) : Prop := ∃ k : Nat, i = .int .i64 (k : Int) ∧ k ≤ L.length ∧ Hid ((0 < k → L.length ≤ 20) ∧ ∀ m ∈ L.take k, m.2.length ≤ 1000) ∧ wr = w
def TkRel2 (w : World) (n : Nat) (i : Value) (wr : World) : Prop := ∃ k : Nat, i = .int .i64 (k : Int) ∧ k ≤ n ∧ Hid (Below w.heap.size w wr)
theorem OwnS.load_at {w : World} {B : Nat} {A : Option Addr} {n c : Nat} {xs : List (List UInt8)} (h : OwnS w B (.slice A n c) xs) {k : Nat} {x : List UInt8} (hk : xs[k]? = some x) : ∃ g, A = some ⟨g, 0, none⟩ ∧ w.cell? ⟨g, k, none⟩ = some (Sv x) := by
  rcases h.form with ⟨hn, _⟩ | ⟨g, c', hv, _, _, _⟩
  · rw [hn] at hk; simp at hk
  · injection hv with e1 e2 e3
    subst e1 e2 e3
    exact ⟨g, rfl, h.at_ rfl hk⟩
theorem load_sv46 {w : World} {p : Addr} {s : List UInt8} (h : w.cell? p = some (Sv s)) : (Instr.loadAt 9 (.pointer (some p))).run Tryz.prog w = .ok (Sv s) w := load_sv h
set_option maxRecDepth 100000 in
set_option maxHeartbeats 16000000 in
theorem carryTakes_any (A : Option Addr) (cap : Nat) (L : List Mb) (name : List UInt8) (w : World) (hM : Mbs w w.heap.size A L) (hN : ∀ m ∈ L, m.1.length ≤ 140737488355328 ∧ m.2.length ≤ 140737488355328) (hn : name.length ≤ 140737488351232) (hl : L.length ≤ 9223372036854775807) :
    Calls Tryz.prog 3 #[.slice A L.length cap, Sv name] w fun e w' => e = .returned (.bool true) ∧ Below w.heap.size w w' := by
  have HMM := hid hM
  have HNN := hid hN
  clear hM hN
  go_enter Tryz.func3, Tryz.ntmps3
  go_wp2_with fail
  go_loopw [6] (fun i wr => TkRel w L i wr) (fun i _ => L.length - (intOf i).toNat)
  case atStart => exact ⟨0, rfl, Nat.zero_le _, hid ⟨fun h => by omega, fun m hm => by simp at hm⟩, rfl⟩
  case round =>
    obtain ⟨k, rfl, hk, HT, rfl⟩ := hrel
    by_cases hlt : k < L.length
    · obtain ⟨m, hm⟩ := get_lt hlt
      obtain ⟨ad, hA, p0, p1⟩ := HMM.out.at_ hm
      have HM := hid hm
      clear hm
      subst hA
      have qi : (0 : Int) ≤ (k : Int) ∧ (k : Int) < (L.length : Int) := by omega
      by_cases h20 : 20 < L.length
      · have q20 : (20 : Int) < (L.length : Int) := by omega
        go_wp2_with (go_at_call 6; refine (hworks46_any _).mono ?_; rintro e w1 ⟨rfl, hb1⟩; have HB1 := hid hb1; clear hb1)
        go_ret
        exact ⟨rfl, HB1.out⟩
      · have q20 : ¬ (20 : Int) < (L.length : Int) := by omega
        by_cases h1000 : 1000 < m.2.length
        · have q1000 : (1000 : Int) < (m.2.length : Int) := by omega
          go_wp2_with (go_at_call 6; refine (hworks46_any _).mono ?_; rintro e w1 ⟨rfl, hb1⟩; have HB1 := hid hb1; clear hb1)
          go_ret
          exact ⟨rfl, HB1.out⟩
        · have q1000 : ¬ (1000 : Int) < (m.2.length : Int) := by omega
          have HT2 := hid (show (0 < k + 1 → L.length ≤ 20) ∧ ∀ q ∈ L.take (k + 1), q.2.length ≤ 1000 from ⟨fun _ => by omega, fun q hq => by
            rw [take_snoc_at HM.out, List.mem_append] at hq
            rcases hq with hq | hq
            · exact HT.out.2 q hq
            · obtain rfl := List.mem_singleton.1 hq
              omega⟩)
          clear h20 h1000
          go_wp2_with fail
          refine ⟨⟨k + 1, by go_num, hlt, HT2, rfl⟩, by simp [intOf] <;> omega⟩
    · obtain rfl : k = L.length := by omega
      have hvs : ∀ m ∈ L, m.2.length ≤ 1000 := fun m hm => HT.out.2 m (by rw [List.take_length]; exact hm)
      have hl20 : L.length ≤ 20 := by
        rcases Nat.eq_zero_or_pos L.length with h0 | h0
        · omega
        · exact HT.out.1 h0
      have hS := short_of (L := L) (by omega) (fun m hm => by have := hvs m hm; omega)
      have hN1 : ∀ m ∈ L, m.1.length ≤ 140737488355328 := fun m hm => (HNN.out m hm).1
      have hown := fun u (hu : Below wr.heap.size wr u) => ownh_any A cap L u ((HMM.out.below hu).mono_ hu.size) (by omega)
      have hex := fun A' c' u (hu : Mbs u u.heap.size A' L) => cextract_any A' c' L u hu hS hN1
      have hrex := fun u (hu : Below wr.heap.size wr u) => rextract_any A cap L u ((HMM.out.below hu).mono_ hu.size) hS hN1
      have hcv := fun A' c' u (hu : Mbs u u.heap.size A' L) => cvalues_any A' c' L name u hu (by omega) hN1 (by omega)
      have hrv := fun u (hu : Below wr.heap.size wr u) => rvalues_any A cap L name u ((HMM.out.below hu).mono_ hu.size) (by omega) hN1 (by omega)
      have hok := readS_ok L
      have hml : (exR L).2.length ≤ 32 := by
        unfold exR exW exS exM
        repeat' split
        all_goals first | exact Nat.zero_le _ | exact readS_len _
      have hvl := valsR_len L name
      obtain ⟨⟨⟨t, x, p, kk, cd⟩, M⟩, hR⟩ : ∃ R, exR L = R := ⟨_, rfl⟩
      rw [hR] at hok hml
      unfold exOut at hex
      unfold ExPostR at hrex
      simp only [hR] at hex hrex hml
      have HOK := hid (show Okc t x p from hok)
      generalize valsR L name = V at hcv hrv hvl
      have HOWN := hid hown
      have HEX := hid hex
      have HREX := hid hrex
      have HCV := hid hcv
      have HRV := hid hrv
      clear hown hex hrex hcv hrv hS hN1 hvs hok hR
      have qC := fun u => run_neq_cv u kk kk t x p t x p HOK.out.1 HOK.out.2.1 HOK.out.2.2 HOK.out.1 HOK.out.2.1 HOK.out.2.2
      simp only [cvq_self] at qC
      go_wp2_with fail
      refine (HOWN.out wr (Below.refl _ _)).mono ?_; rintro e w1 ⟨v1, rfl, ho1, hb1⟩
      have HO1 := hid ho1
      have HB1 := hid hb1
      clear ho1 hb1
      obtain ⟨A1, c1, hv1⟩ := HO1.out.len
      subst hv1
      go_wp2_with fail
      refine (HEX.out A1 c1 w1 HO1.out.mbs_).mono ?_; rintro e w2 ⟨v2, rfl, ho2, hb2⟩
      have HO2 := hid ho2
      have HF2 := hid ((Frm.of (ext_trans HB1.out hb2)).new0 31 (n := w2.heap.size) rfl)
      clear ho2 hb2
      go_upto_region 8 with (refine wpList_store_cv rfl 31 _ _ rfl w2.heap.size 31 kk 0 t x p (zb 16) (zb 8) (zb 8) rfl rfl (HF2.out.get 0 rfl) info_ctx HOK.out.1 HOK.out.2.1 HOK.out.2.2 (zb_length 16) (zb_length 8) (zb_length 8) ?_; intro w3 hw3 _; have HF3 := hid (show Frm wr w3 _ by rw [hw3]; exact HF2.out.setRow 0 rfl _); have HO3 := hid (HO2.out.ext (stored_new hw3)); clear hw3)
      obtain ⟨A3, c3, hv3⟩ := HO3.out.len
      subst hv3
      have HM3 := hid (HO3.out.mbs_)
      go_wp2_with fail
      refine (HREX.out w3 HF3.out.bel).mono ?_; rintro e w4 ⟨v4, rfl, ho4, hb4⟩
      have HO4 := hid ho4
      have HF4 := hid ((HF3.out.call hb4).new0 31 (n := w4.heap.size) rfl)
      have HM4 := hid (HM3.out.ext hb4)
      clear ho4 hb4
      go_upto_region 9 with (refine wpList_store_cv rfl 31 _ _ rfl w4.heap.size 31 kk 0 t x p (zb 16) (zb 8) (zb 8) rfl rfl (HF4.out.get 1 rfl) info_ctx HOK.out.1 HOK.out.2.1 HOK.out.2.2 (zb_length 16) (zb_length 8) (zb_length 8) ?_; intro w5 hw5 _; have HF5 := hid (show Frm wr w5 _ by rw [hw5]; exact HF4.out.setRow 1 rfl _); have HO5 := hid (HO4.out.ext (stored_new hw5)); have HM5 := hid (HM4.out.ext (stored_new hw5)); clear hw5)
      obtain ⟨A5, c5, hv5⟩ := HO5.out.len
      subst hv5
      have HK5 := hid (HO5.out.mbs_)
      go_wp2_with fail
      refine (HOWN.out w5 HF5.out.bel).mono ?_; rintro e w6 ⟨v6, rfl, ho6, hb6⟩
      have HO6 := hid ho6
      have HF6 := hid (HF5.out.call hb6)
      have HR6 := hid hb6
      clear ho6 hb6
      obtain ⟨A6, c6, hv6⟩ := HO6.out.len
      subst hv6
      go_wp2_with fail
      refine (HCV.out A6 c6 w6 HO6.out.mbs_).mono ?_; rintro e w7 ⟨v7, rfl, ho7, hb7⟩
      have HO7 := hid ho7
      have HF7 := hid (HF6.out.call hb7)
      have HR7 := hid (ext_trans HR6.out hb7)
      clear ho7 hb7
      obtain ⟨A7, c7, hv7⟩ := HO7.out.lenform
      subst hv7
      go_wp2_with fail
      refine (HRV.out w7 HF7.out.bel).mono ?_; rintro e w8 ⟨v8, rfl, ho8, hb8⟩
      have HO8 := hid ho8
      have HF8 := hid (HF7.out.call hb8)
      have HR8 := hid (ext_trans HR7.out hb8)
      have HO78 := hid (HO7.out.ext hb8)
      clear ho8 hb8
      obtain ⟨A8, c8, hv8⟩ := HO8.out.lenform
      subst hv8
      have hbk := back44_any A3 c3 M w8 (HM5.out.ext HR8.out) (by omega)
      go_wp2_with (first
        | (refine at_load 31 (by rfl) ?_; refine wpList_loadE rfl rfl (HF8.out.loadCv 0 rfl HOK.out) rfl ?_)
        | (refine at_load 31 (by rfl) ?_; refine wpList_loadE rfl rfl (HF8.out.loadCv 1 rfl HOK.out) rfl ?_)
        | (go_at_call 13; refine hbk.mono ?_; rintro e w9 ⟨v9, rfl, ho9, hb9⟩; have HO9 := hid ho9; have HR9 := hid hb9; clear ho9 hb9; obtain ⟨A9, c9, hv9⟩ := HO9.out.len; subst hv9))
      have hsm := rsame_any A9 A5 c9 c5 M M w9 HO9.out.mbs_ (HK5.out.ext (ext_trans HR8.out HR9.out)) (by omega)
      rw [show decide (M = M) = true by simp] at hsm
      refine hsm.mono ?_; rintro e wa ⟨rfl, hba⟩
      have HFa := hid (HF8.out.call (ext_trans HR9.out hba))
      have HVa := hid (HO78.out.ext (ext_trans HR9.out hba))
      have HWa := hid (HO8.out.ext (ext_trans HR9.out hba))
      clear hba hsm hbk
      go_wp2_with fail
      go_loopw [5] (fun i u => TkRel2 wa V.length i u) (fun i _ => V.length - (intOf i).toNat)
      case atStart => exact ⟨0, rfl, Nat.zero_le _, Below.refl _ _⟩
      case round =>
        rename_i wq _
        obtain ⟨j, rfl, hj, HBq⟩ := hrel
        by_cases hlj : j < V.length
        · obtain ⟨y, hy⟩ := get_lt hlj
          obtain ⟨g7, hA7, _⟩ := HVa.out.load_at hy
          obtain ⟨g8, hA8, _⟩ := HWa.out.load_at hy
          have HY := hid hy
          clear hy
          subst hA7 hA8
          have qj : (0 : Int) ≤ (j : Int) ∧ (j : Int) < (V.length : Int) := by omega
          have HL7 := hid (fun u (hu : Below wa.heap.size wa u) => (show u.cell? ⟨g7, j, none⟩ = some (Sv y) by
            obtain ⟨g, e, h⟩ := (HVa.out.ext hu).load_at HY.out
            cases e
            exact h))
          have HL8 := hid (fun u (hu : Below wa.heap.size wa u) => (show u.cell? ⟨g8, j, none⟩ = some (Sv y) by
            obtain ⟨g, e, h⟩ := (HWa.out.ext hu).load_at HY.out
            cases e
            exact h))
          have qyy : (y != y) = false := by simp
          go_upto_region 15 with fail
          refine region_steady (fun u => Below wa.heap.size wa u) (by kernel_rfl) (by kernel_rfl) (HBq.out.trans ((ext_drew _).mono HBq.out.size)) ?_
          repeat (first
            | (refine steady_off (by rfl) ?_; try simp only [Act.put, List.setIfInBounds_toArray, List.set_cons_zero, List.set_cons_succ])
            | (refine steady_pure (v := ?_) (by rfl) ?_ ?_; rotate_left; (focus (intro u; go_simp; with_reducible rfl)); try simp only [Act.put, List.setIfInBounds_toArray, List.set_cons_zero, List.set_cons_succ]))
          refine steady_load 9 (.tmp 84) rfl (by rfl) (fun u h => load_sv46 (HL7.out u h)) ?_
          repeat (first
            | (refine steady_off (by rfl) ?_; try simp only [Act.put, List.setIfInBounds_toArray, List.set_cons_zero, List.set_cons_succ])
            | (refine steady_pure (v := ?_) (by rfl) ?_ ?_; rotate_left; (focus (intro u; go_simp; with_reducible rfl)); try simp only [Act.put, List.setIfInBounds_toArray, List.set_cons_zero, List.set_cons_succ]))
          refine steady_load 9 (.tmp 88) rfl (by rfl) (fun u h => load_sv46 (HL8.out u h)) ?_
          repeat (first
            | (refine steady_off (by rfl) ?_; try simp only [Act.put, List.setIfInBounds_toArray, List.set_cons_zero, List.set_cons_succ])
            | (refine steady_pure (v := ?_) (by rfl) ?_ ?_; rotate_left; (focus (intro u; go_simp; with_reducible rfl)); try simp only [Act.put, List.setIfInBounds_toArray, List.set_cons_zero, List.set_cons_succ]))
          refine steady_nil (fun wr2 h1 => ?_)
          have HB1 := hid h1
          clear h1
          go_wp2_with fail
          refine ⟨⟨j + 1, by go_num, hlj, HB1⟩, by simp [intOf] <;> omega⟩
        · obtain rfl : j = V.length := by omega
          go_wp2_with (go_at_call 6; refine (hworks46_any _).mono ?_; rintro e wz ⟨rfl, hbz⟩; have HFz := hid ((HFa.out.call HBq.out).call hbz); clear hbz)
          go_ret
          exact ⟨rfl, HFz.out.bel⟩
end Go.Proofs.YtgfdmdikiickpaaGreatDoor
