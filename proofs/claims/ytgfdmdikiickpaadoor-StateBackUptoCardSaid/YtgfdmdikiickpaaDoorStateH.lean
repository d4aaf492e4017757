/-
  Walks of package state and its reference: Put.
-/
import Derived.Test.YtgfdmdikiickpaaDoorStateB
import Derived.Test.YtgfdmdikiickpaaDoorStateD
import Derived.Test.YtgfdmdikiickpaaDoorMembs
namespace Go.Proofs.YtgfdmdikiickpaaDoor
open Go.RowKit

def PutRel (w : World) (T : TypeId) (L : List Mb) (key value : List UInt8) (v i : Value) (wr : World) : Prop := ∃ (v' : Value) (k : Nat), v' = v ∧ i = .int .i64 (k : Int) ∧ k ≤ L.length ∧ Hid (OwnM wr w.heap.size T v' (putR (L.take k) key value)) ∧ Hid (Below w.heap.size w wr)
set_option maxRecDepth 100000 in
set_option maxHeartbeats 4000000 in
theorem sput_any (A : Option Addr) (cap : Nat) (L : List Mb) (key value : List UInt8) (w : World) (h : Mbs w w.heap.size A L) (hl : L.length ≤ 100000) (hk : key.length ≤ 4611686018427387904) (hv : value.length ≤ 4611686018427387904) :
    Calls Tryd.prog 31 #[.slice A L.length cap, Sv key, Sv value] w fun e w' => ∃ v, e = .returned (.tuple #[v, .int .i64 (putS L key value).2]) ∧ OwnM w' w.heap.size 92 v (putS L key value).1 ∧ Below w.heap.size w w' := by
  have HO := hid h
  clear h
  have ha := fun u => skey_any key u hk
  have hb := fun u => svalue_any value u (by omega)
  clear hk hv
  have HY := hid (putS_yes (L := L) (key := key) (value := value))
  have HN := hid (putS_no (L := L) (key := key) (value := value))
  obtain ⟨K, hK⟩ : ∃ K, keyB key = K := ⟨_, rfl⟩
  obtain ⟨V, hV⟩ : ∃ V, valB value = V := ⟨_, rfl⟩
  rw [hK, hV] at HY HN
  simp only [hK] at ha
  simp only [hV] at hb
  clear hK hV
  cases K with
  | false =>
    have HE := hid (HN.out (by simp))
    clear HY HN
    go_enter Tryd.func31, Tryd.ntmps31
    go_wp2_with ((go_at_call 24; refine (ha _).mono ?_; rintro e w1 ⟨rfl, hb1⟩; have HB1 := hid hb1; clear hb1))
    go_ret2
    exact ⟨_, by rw [HE.out]; rfl, by rw [HE.out]; exact OwnM.nil _ _ _, HB1.out⟩
  | true =>
    cases V with
    | false =>
      have HE := hid (HN.out (by simp))
      clear HY HN
      go_enter Tryd.func31, Tryd.ntmps31
      go_wp2_with (first
        | (go_at_call 24; refine (ha _).mono ?_; rintro e w1 ⟨rfl, hb1⟩; have HB1 := hid hb1; clear hb1)
        | (go_at_call 26; refine (hb _).mono ?_; rintro e w2 ⟨rfl, hb2⟩; have HB2 := hid (HB1.out.trans (hb2.mono HB1.out.size)); clear hb2))
      go_ret2
      exact ⟨_, by rw [HE.out]; rfl, by rw [HE.out]; exact OwnM.nil _ _ _, HB2.out⟩
    | true =>
      have HE := hid (HY.out rfl rfl)
      clear HY HN
      go_enter Tryd.func31, Tryd.ntmps31
      go_wp2_with (first
        | (go_at_call 24; refine (ha _).mono ?_; rintro e w1 ⟨rfl, hb1⟩; have HB1 := hid hb1; clear hb1)
        | (go_at_call 26; refine (hb _).mono ?_; rintro e w2 ⟨rfl, hb2⟩; have HB2 := hid (HB1.out.trans (hb2.mono HB1.out.size)); clear hb2))
      clear ha hb
      have HOS := hid (OwnM.one w2 w.heap.size HB2.out.size 92 (key, value))
      have HBS := hid (HB2.out.alloc HB2.out.size (.cells #[Sv key, Sv value] 92))
      go_loopw [8, 25] (fun v i wr => PutRel w 92 L key value v i wr) (fun _ i _ => L.length - (intOf i).toNat)
      case atStart => exact ⟨_, 0, rfl, rfl, Nat.zero_le _, HOS, HBS⟩
      case round =>
        obtain ⟨v', k, hv, rfl, hk, HW, HB⟩ := hrel
        subst hv
        obtain ⟨A1, c1, hform⟩ := HW.out.len
        subst hform
        have hplen := putR_len (L.take k) key value
        by_cases hlt : k < L.length
        · obtain ⟨m, hm⟩ := get_lt hlt
          obtain ⟨ad, hA, p0, p1⟩ := (HO.out.below HB.out).at_ hm
          have HM := hid hm
          clear hm
          subst hA
          have qi : (0 : Int) ≤ (k : Int) ∧ (k : Int) < (L.length : Int) := by omega
          have HB3 := hid (HB.out.alloc HB.out.size (.cells #[Sv m.1, Sv m.2] 92))
          have HW3 := hid (HW.out.ext (ext_alloc wr (.cells #[Sv m.1, Sv m.2] 92)))
          obtain ⟨b, hb⟩ : ∃ b, (m.1 == key) = b := ⟨_, rfl⟩
          have HBB := hid hb
          have hbq : (m.1 == key) = b := hb
          clear hb
          by_cases hfull : (putR (L.take k) key value).length < 32
          · cases b with
            | true =>
              have HW4 := hid (show OwnM (wr.alloc (.cells #[Sv m.1, Sv m.2] 92)) w.heap.size 92 (.slice A1 (putR (L.take k) key value).length c1) (putR (L.take (k + 1)) key value) by rw [take_snoc_at HM.out, putR_skip HBB.out]; exact HW3.out)
              go_wp2_with fail
              refine ⟨⟨_, k + 1, rfl, by go_num, hlt, HW4, HB3⟩, by simp [intOf] <;> omega⟩
            | false =>
              have HP := hid (show putR (L.take (k + 1)) key value = putR (L.take k) key value ++ [m] by rw [take_snoc_at HM.out, putR_snoc HBB.out hfull])
              have hkl : (putR (L.take k) key value).length ≤ 1000000 := by omega
              have HO7 := hid (HW3.out.ext (ext_alloc _ (.cells #[Sv m.1, Sv m.2] 92)))
              have HBK := hid (show Blk ((wr.alloc (.cells #[Sv m.1, Sv m.2] 92)).alloc (.cells (mcs m) 92)) (wr.heap.size + 1) 92 (mcs m) by have h := Blk.new (wr.alloc (.cells #[Sv m.1, Sv m.2] 92)) 92 (mcs m); rwa [size_alloc] at h)
              have HB7 := hid (HB3.out.alloc HB3.out.size (.cells #[Sv m.1, Sv m.2] 92))
              go_wp2_with (refine wpList_appM rfl _ _ _ _ Tryd.underlying43 info_sm rfl w.heap.size (.slice A1 (putR (L.take k) key value).length c1) (putR (L.take k) key value) rfl HO7.out (wr.heap.size + 1) 1 92 m rfl HBK.out hkl HB7.out.size ?_; intro v8 w8 hown8 hg8; have HO8 := hid hown8; have HB8 := hid (show Below w.heap.size w w8 from Below.grown HB7.out hg8 HB7.out.size (fun k hk => (World.ownsRow.lt HO7.out k hk).1)); clear hown8 hg8)
              refine ⟨⟨v8, k + 1, rfl, by go_num, hlt, hid (by rw [HP.out]; exact HO8.out), HB8⟩, by simp [intOf] <;> omega⟩
          · have HW4 := hid (show OwnM (wr.alloc (.cells #[Sv m.1, Sv m.2] 92)) w.heap.size 92 (.slice A1 (putR (L.take k) key value).length c1) (putR (L.take (k + 1)) key value) by rw [take_snoc_at HM.out, putR_full (by omega)]; exact HW3.out)
            cases b with
            | true =>
              go_wp2_with fail
              refine ⟨⟨_, k + 1, rfl, by go_num, hlt, HW4, HB3⟩, by simp [intOf] <;> omega⟩
            | false =>
              go_wp2_with fail
              refine ⟨⟨_, k + 1, rfl, by go_num, hlt, HW4, HB3⟩, by simp [intOf] <;> omega⟩
        · obtain rfl : k = L.length := by omega
          have HW := hid (show OwnM wr w.heap.size 92 (.slice A1 (putR L key value).length c1) (putR L key value) by have := HW.out; rw [List.take_length] at this; exact this)
          go_wp2_with fail
          go_ret2
          exact ⟨_, by rw [HE.out]; rfl, by rw [HE.out]; exact HW.out, HB.out⟩
set_option maxRecDepth 100000 in
set_option maxHeartbeats 4000000 in
theorem rput44_any (A : Option Addr) (cap : Nat) (L : List Mb) (key value : List UInt8) (w : World) (h : Mbs w w.heap.size A L) (hl : L.length ≤ 100000) (hk : key.length ≤ 4611686018427387904) (hv : value.length ≤ 4611686018427387904) :
    Calls Tryd.prog 32 #[.slice A L.length cap, Sv key, Sv value] w fun e w' => ∃ v, e = .returned (.tuple #[v, .int .i64 (putS L key value).2]) ∧ OwnM w' w.heap.size 100 v (putS L key value).1 ∧ Below w.heap.size w w' := by
  have HO := hid h
  clear h
  have ha := fun u => rkey44_any key u hk
  have hb := fun u => rvalue44_any value u (by omega)
  clear hk hv
  have HY := hid (putS_yes (L := L) (key := key) (value := value))
  have HN := hid (putS_no (L := L) (key := key) (value := value))
  obtain ⟨K, hK⟩ : ∃ K, keyB key = K := ⟨_, rfl⟩
  obtain ⟨V, hV⟩ : ∃ V, valB value = V := ⟨_, rfl⟩
  rw [hK, hV] at HY HN
  simp only [hK] at ha
  simp only [hV] at hb
  clear hK hV
  cases K with
  | false =>
    have HE := hid (HN.out (by simp))
    clear HY HN
    go_enter Tryd.func32, Tryd.ntmps32
    go_wp2_with ((go_at_call 25; refine (ha _).mono ?_; rintro e w1 ⟨rfl, hb1⟩; have HB1 := hid hb1; clear hb1))
    go_ret2
    exact ⟨_, by rw [HE.out]; rfl, by rw [HE.out]; exact OwnM.nil _ _ _, HB1.out⟩
  | true =>
    cases V with
    | false =>
      have HE := hid (HN.out (by simp))
      clear HY HN
      go_enter Tryd.func32, Tryd.ntmps32
      go_wp2_with (first
        | (go_at_call 25; refine (ha _).mono ?_; rintro e w1 ⟨rfl, hb1⟩; have HB1 := hid hb1; clear hb1)
        | (go_at_call 27; refine (hb _).mono ?_; rintro e w1 ⟨rfl, rfl⟩))
      go_ret2
      exact ⟨_, by rw [HE.out]; rfl, by rw [HE.out]; exact OwnM.nil _ _ _, HB1.out⟩
    | true =>
      have HE := hid (HY.out rfl rfl)
      clear HY HN
      go_enter Tryd.func32, Tryd.ntmps32
      go_wp2_with (first
        | (go_at_call 25; refine (ha _).mono ?_; rintro e w1 ⟨rfl, hb1⟩; have HB1 := hid hb1; clear hb1)
        | (go_at_call 27; refine (hb _).mono ?_; rintro e w1 ⟨rfl, rfl⟩))
      clear ha hb
      have HOS := hid (OwnM.one w1 w.heap.size HB1.out.size 100 (key, value))
      have HBS := hid (HB1.out.alloc HB1.out.size (.cells #[Sv key, Sv value] 100))
      go_loopw [8, 9] (fun v i wr => PutRel w 100 L key value v i wr) (fun _ i _ => L.length - (intOf i).toNat)
      case atStart => exact ⟨_, 0, rfl, rfl, Nat.zero_le _, HOS, HBS⟩
      case round =>
        obtain ⟨v', k, hv, rfl, hk, HW, HB⟩ := hrel
        subst hv
        obtain ⟨A1, c1, hform⟩ := HW.out.len
        subst hform
        have hplen := putR_len (L.take k) key value
        by_cases hlt : k < L.length
        · obtain ⟨m, hm⟩ := get_lt hlt
          obtain ⟨ad, hA, p0, p1⟩ := (HO.out.below HB.out).at_ hm
          have HM := hid hm
          clear hm
          subst hA
          have qi : (0 : Int) ≤ (k : Int) ∧ (k : Int) < (L.length : Int) := by omega
          obtain ⟨b, hb⟩ : ∃ b, (m.1 == key) = b := ⟨_, rfl⟩
          have HBB := hid hb
          have hbq : (m.1 == key) = b := hb
          clear hb
          by_cases hfull : (putR (L.take k) key value).length < 32
          · cases b with
            | true =>
              have HW4 := hid (show OwnM wr w.heap.size 100 (.slice A1 (putR (L.take k) key value).length c1) (putR (L.take (k + 1)) key value) by rw [take_snoc_at HM.out, putR_skip HBB.out]; exact HW.out)
              go_wp2_with fail
              refine ⟨⟨_, k + 1, rfl, by go_num, hlt, HW4, HB⟩, by simp [intOf] <;> omega⟩
            | false =>
              have HP := hid (show putR (L.take (k + 1)) key value = putR (L.take k) key value ++ [m] by rw [take_snoc_at HM.out, putR_snoc HBB.out hfull])
              have hkl : (putR (L.take k) key value).length ≤ 1000000 := by omega
              have HO7 := hid (HW.out.ext (ext_alloc _ (.cells #[Sv m.1, Sv m.2] 100)))
              have HBK := hid (Blk.new wr 100 (mcs m))
              have HB7 := hid (HB.out.alloc HB.out.size (.cells #[Sv m.1, Sv m.2] 100))
              go_wp2_with (refine wpList_appM rfl _ _ _ _ Tryd.underlying46 info_rm rfl w.heap.size (.slice A1 (putR (L.take k) key value).length c1) (putR (L.take k) key value) rfl HO7.out wr.heap.size 1 100 m rfl HBK.out hkl HB7.out.size ?_; intro v8 w8 hown8 hg8; have HO8 := hid hown8; have HB8 := hid (show Below w.heap.size w w8 from Below.grown HB7.out hg8 HB7.out.size (fun k hk => (World.ownsRow.lt HO7.out k hk).1)); clear hown8 hg8)
              refine ⟨⟨v8, k + 1, rfl, by go_num, hlt, hid (by rw [HP.out]; exact HO8.out), HB8⟩, by simp [intOf] <;> omega⟩
          · have HW4 := hid (show OwnM wr w.heap.size 100 (.slice A1 (putR (L.take k) key value).length c1) (putR L key value) by
              have e := putR_full (L := L.take k) (key := key) (value := value) (by omega) (L.drop k)
              rw [List.take_append_drop] at e
              rw [e]; exact HW.out)
            clear hbq
            go_wp2_with fail
            go_ret2
            exact ⟨_, by rw [HE.out]; rfl, by rw [HE.out]; exact HW4.out, HB.out⟩
        · obtain rfl : k = L.length := by omega
          have HW := hid (show OwnM wr w.heap.size 100 (.slice A1 (putR L key value).length c1) (putR L key value) by have := HW.out; rw [List.take_length] at this; exact this)
          go_wp2_with fail
          go_ret2
          exact ⟨_, by rw [HE.out]; rfl, by rw [HE.out]; exact HW.out, HB.out⟩
end Go.Proofs.YtgfdmdikiickpaaDoor
