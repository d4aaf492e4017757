/-
  Texts for the laws of this seat, merged: PCarry, Carry, CarryV, CarryX, CarryY, CarryW.
-/
import Derived.Test.YtgfdmdikiickpaaGreatDoorMA
import Derived.Test.YtgfdmdikiickpaaGreatDoorMB
import Derived.Test.YtgfdmdikiickpaaGreatDoorMC
import Derived.Test.YtgfdmdikiickpaaGreatDoorME
import Derived.Test.YtgfdmdikiickpaaGreatDoorMF
import Derived.Test.YtgfdmdikiickpaaGreatDoorMH
import Derived.Test.YtgfdmdikiickpaaGreatDoorMJ
/-! PCarry -/
namespace Go.Proofs.YtgfdmdikiickpaaGreatDoor

def lwI (x : Int) : Int := if 65 ≤ x ∧ x ≤ 90 then x + 32 else x
def lwB (b : UInt8) : UInt8 := bt (lwI (bi b))
def lwS (s : List UInt8) : List UInt8 := s.map lwB
theorem bi_bd (b : UInt8) : 0 ≤ bi b ∧ bi b ≤ 255 := by
  have := b.toNat_lt
  unfold bi
  omega
theorem lwI_bd {x : Int} (h0 : 0 ≤ x) (h1 : x ≤ 255) : 0 ≤ lwI x ∧ lwI x ≤ 255 := by
  unfold lwI
  split <;> omega
theorem b8_low (b : UInt8) : b8 (lwB b) = .int .u8 (lwI (bi b)) := b8_bt _ (lwI_bd (bi_bd b).1 (bi_bd b).2).1 (lwI_bd (bi_bd b).1 (bi_bd b).2).2
theorem bi_low (b : UInt8) : bi (lwB b) = lwI (bi b) := by
  have h := b8_low b
  unfold b8 at h
  injection h
theorem lwS_length (s : List UInt8) : (lwS s).length = s.length := by simp [lwS]
/-- The values of a name. -/
def valsR (L : List Mb) (name : List UInt8) : List (List UInt8) := (L.filter fun h => lwS h.1 == lwS name).map (·.2)
theorem valsR_snoc (L : List Mb) (m : Mb) (name : List UInt8) : valsR (L ++ [m]) name = valsR L name ++ (if (lwS m.1 == lwS name) = true then [m.2] else []) := by
  unfold valsR
  rw [List.filter_append, List.map_append]
  by_cases h : (lwS m.1 == lwS name) = true
  · rw [if_pos h]; simp [h]
  · rw [if_neg h]; simp [h]
theorem valsR_len (L : List Mb) (name : List UInt8) : (valsR L name).length ≤ L.length := by
  unfold valsR
  rw [List.length_map]
  exact List.length_filter_le _ _
def n1 : List UInt8 := [116, 114, 97, 99, 101, 112, 97, 114, 101, 110, 116]
def n2 : List UInt8 := [116, 114, 97, 99, 101, 115, 116, 97, 116, 101]
def n3 : List UInt8 := [98, 51]
def nT : List UInt8 := [120, 45, 98, 51, 45, 116, 114, 97, 99, 101, 105, 100]
def nX : List UInt8 := [120, 45, 98, 51, 45, 115, 112, 97, 110, 105, 100]
def nP : List UInt8 := [120, 45, 98, 51, 45, 112, 97, 114, 101, 110, 116, 115, 112, 97, 110, 105, 100]
def nS : List UInt8 := [120, 45, 98, 51, 45, 115, 97, 109, 112, 108, 101, 100]
def nF : List UInt8 := [120, 45, 98, 51, 45, 102, 108, 97, 103, 115]
def nms : List (List UInt8) := [n1, n2, n3, nT, nX, nP, nS, nF]
def valV (L : List Mb) (nm : List UInt8) : List UInt8 := (valsR L nm).headD []
def dbl (L : List Mb) (nm : List UInt8) : Bool := decide (1 < (valsR L nm).length)
def exW (L : List Mb) : Cx × List Mb :=
  if dbl L n1 = true then (cxBad 8, [])
  else if (readH (valV L n1)).2.2.2.2 = 0 then (((readH (valV L n1)).2.1, (readH (valV L n1)).2.2.1, zb 8, 1 + (readH (valV L n1)).2.2.2.1 % 2, 0), (readS (Lib.join (valsR L n2) [44])).1)
  else (cxBad (readH (valV L n1)).2.2.2.2, [])
def exS (L : List Mb) : Cx × List Mb := if dbl L n3 = true then (cxBad 8, []) else (oneR (valV L n3), [])
def dbl5 (L : List Mb) : Bool := dbl L nT || (dbl L nX || (dbl L nP || (dbl L nS || dbl L nF)))
def mu5 (L : List Mb) : Mu := (valV L nT, valV L nX, valV L nP, valV L nS, valV L nF)
def exM (L : List Mb) : Cx × List Mb := if dbl5 L = true then (cxBad 8, []) else (multiR (mu5 L), [])
def exR (L : List Mb) : Cx × List Mb := if valsR L n1 ≠ [] then exW L else if valsR L n3 ≠ [] then exS L else exM L
/-- The values that may be read are short. -/
def ShortV (L : List Mb) : Prop := L.length ≤ 1000 ∧ ∀ nm ∈ nms, ∀ s ∈ valsR L nm, s.length ≤ 1048576
theorem ShortV.val {L : List Mb} (h : ShortV L) {nm : List UInt8} (hn : nm ∈ nms) : (valV L nm).length ≤ 1048576 := by
  have h2 := h.2 nm hn
  unfold valV
  cases hv : valsR L nm with
  | nil => simp
  | cons a r => exact h2 a (by rw [hv]; simp)
theorem join_len : ∀ (xs : List (List UInt8)) (B : Nat), (∀ x ∈ xs, x.length ≤ B) → (Lib.join xs [44]).length ≤ xs.length * (B + 1)
  | [], B, _ => by simp [Lib.join, List.intercalate]
  | x :: xs, B, h => by
    have ih := join_len xs B (fun y hy => h y (List.mem_cons_of_mem _ hy))
    have hx := h x (by simp)
    have e : Lib.join (x :: xs) [44] = x ++ (if xs = [] then [] else 44 :: Lib.join xs [44]) := by
      cases xs with
      | nil => simp [Lib.join, List.intercalate]
      | cons y r => unfold Lib.join; simp [List.intercalate, List.intersperse]
    rw [e, List.length_append, List.length_cons, Nat.add_mul]
    split
    · simp; omega
    · simp only [List.length_cons]; omega
theorem ShortV.join {L : List Mb} (h : ShortV L) : (Lib.join (valsR L n2) [44]).length ≤ 2000000000 := by
  have h1 := join_len (valsR L n2) 1048576 (h.2 n2 (by simp [nms]))
  have h2 := valsR_len L n2
  have h3 := h.1
  have h4 : (valsR L n2).length * (1048576 + 1) ≤ 1000 * (1048576 + 1) := Nat.mul_le_mul_right _ (by omega)
  omega
/-- What headers are laid. -/
def someR (L : List Mb) : List Mb := L.filter fun h => !(h.2 == [])
theorem someR_snoc (L : List Mb) (m : Mb) : someR (L ++ [m]) = someR L ++ (if (m.2 == []) = true then [] else [m]) := by
  unfold someR
  rw [List.filter_append]
  by_cases h : (m.2 == []) = true
  · rw [if_pos h, List.filter_cons, if_neg (by rw [h]; simp)]
    rfl
  · rw [if_neg h, List.filter_cons, if_pos (by simpa using h)]
    rfl
def five (m : Mu) : List Mb := [(nT, m.1), (nX, m.2.1), (nP, m.2.2.1), (nS, m.2.2.2.1), (nF, m.2.2.2.2)]
def injR (t x p : List UInt8) (k : Int) (L : List Mb) (style : Int) : List Mb :=
  if style = 1 then (if textH t x (keepF k) = [] then [] else someR [(n1, textH t x (keepF k)), (n2, textS L)])
  else if style = 2 then someR [(n3, oneT t x p k)]
  else if style = 3 then someR (five (multiT t x p k))
  else []
theorem injR_len (t x p : List UInt8) (k : Int) (L : List Mb) (style : Int) : (injR t x p k L style).length ≤ 5 := by
  unfold injR someR
  repeat' split
  all_goals first | exact Nat.zero_le _ | exact Nat.le_trans (List.length_filter_le _ _) (by simp [five])
end Go.Proofs.YtgfdmdikiickpaaGreatDoor

/-! Carry -/
namespace Go.Proofs.YtgfdmdikiickpaaGreatDoor
open Go.RowKit

/-- A row of bytes of the call's own. -/
def Row (w : World) (g c : Nat) (m : List UInt8) : Prop := ∃ (cs : Array Value) (fr : Nat × Nat), w.heap[g]? = some (.cells cs 5 fr) ∧ cs.size ≤ fr.1 ∧ m.length ≤ c ∧ ∀ (j : Nat) u, (b8s m)[j]? = some u → cs[j]? = some u
theorem to_row (w : World) (l : List UInt8) : ∃ g c w', (convert 9 117 (Sv l)).run Tryz.prog w = .ok (.slice (some ⟨g, 0, none⟩) l.length c) w' ∧ w.heap.size ≤ g ∧ Row w' g c l ∧ Below w.heap.size w w' := by
  refine ⟨_, _, _, run_bytes_of_string w _ _ _ _ und_str und_bytes und_u8, ?_, ⟨_, _, heap_alloc_new w.drew _, Nat.le_refl _, grownCap_ge _ _ _ _, fun j u hu => ?_⟩, ((Below.refl _ _).drew).alloc (by simp) _⟩
  · exact Nat.le_refl _
  have hj : j < l.length := by
    rcases Nat.lt_or_ge j l.length with h | h
    · exact h
    · rw [List.getElem?_eq_none (by simpa using h)] at hu; cases hu
  rw [← hu]
  simp only [bytesRow, b8s]
  rw [Array.getElem?_append_left (by simpa using hj)]
  simp only [List.getElem?_map, Array.getElem?_map, List.getElem?_toArray]
  rfl
theorem wpList_to_row {w : World} {ops : Array Oper} {rest : List Oper} {o : Oper} {a : Act} {Q : Exit → Act → World → Prop} (hgd : o.guard = none) (s : Operand)
    (ho : o.op = .convert 9 117 s) (l : List UInt8) (hs : a.eval s = Sv l)
    (h : ∀ g c w', w.heap.size ≤ g → Row w' g c l → Below w.heap.size w w' → wpList Tryz.prog ops Q rest (a.put o.dst (.slice (some ⟨g, 0, none⟩) l.length c)) w') : wpList Tryz.prog ops Q (o :: rest) a w := by
  refine wpList_plain hgd fun K hK => ?_
  obtain ⟨g, c, w', hr, hg, hrow, hb⟩ := to_row w l
  unfold Oper.wp
  simp [execOp, ho, hs, hr, Result.andThen]
  exact hK _ _ (h g c w' hg hrow hb)
theorem Row.lt {w : World} {g c : Nat} {m : List UInt8} (h : Row w g c m) : g < w.heap.size := by
  obtain ⟨cs, fr, hb, _⟩ := h
  rcases Nat.lt_or_ge g w.heap.size with q | q
  · exact q
  · rw [Array.getElem?_eq_none q] at hb; cases hb
theorem Row.bs {w : World} {g c : Nat} {m : List UInt8} (h : Row w g c m) : Bs w w.heap.size (.slice (some ⟨g, 0, none⟩) m.length c) m := by
  have hlt := h.lt
  obtain ⟨cs, fr, hb, _, hc, hr⟩ := h
  refine ⟨_, _, rfl, hc, by simp, fun _ => ⟨_, rfl, hlt, fun j u hu => ?_⟩⟩
  rw [add_zero_off, cell_of_row w g j cs _ fr hb]
  exact hr j u hu
theorem Row.at_ {w : World} {g c : Nat} {m : List UInt8} (h : Row w g c m) {k : Nat} (hk : k < m.length) : w.cell? ⟨g, k, none⟩ = some (.int .u8 (byteAt m k)) ∧ w.frozen? ⟨g, k, none⟩ = false := by
  obtain ⟨cs, fr, hb, hf, _, hr⟩ := h
  have e := hr k (.int .u8 (byteAt m k)) (by
    rw [byteAt_getElem m k hk]
    simp [b8s, hk]
    rfl)
  have hlt : k < cs.size := by
    rcases Nat.lt_or_ge k cs.size with q | q
    · exact q
    · rw [Array.getElem?_eq_none q] at e; cases e
  refine ⟨by rw [cell_of_row w g k cs _ fr hb]; exact e, ?_⟩
  simp [World.frozen?, hb]
  omega
theorem Row.put {w : World} {g c : Nat} {m : List UInt8} (h : Row w g c m) (k : Nat) (b : UInt8) (hk : k < m.length) : Row (w.setCell ⟨g, k, none⟩ (b8 b)) g c (m.set k b) := by
  obtain ⟨cs, fr, hb, hf, hc, hr⟩ := h
  refine ⟨cs.setIfInBounds k (b8 b), fr, by simp [World.setCell, Array.getElem?_modify, hb], by simpa using hf, by simpa using hc, fun j u hu => ?_⟩
  have hkc : k < cs.size := by
    have := hr k (b8 m[k]) (by simp [b8s, hk])
    rcases Nat.lt_or_ge k cs.size with q | q
    · exact q
    · rw [Array.getElem?_eq_none q] at this; cases this
  have e : b8s (m.set k b) = (b8s m).set k (b8 b) := by simp [b8s, List.map_set]
  rw [e] at hu
  by_cases hj : j = k
  · subst hj
    rw [List.getElem?_set_self (by simpa using hk)] at hu
    rw [Array.getElem?_setIfInBounds_self_of_lt hkc, ← hu]
  · rw [List.getElem?_set_ne (fun q => hj q.symm)] at hu
    rw [Array.getElem?_setIfInBounds_ne (fun q => hj q.symm)]
    exact hr j u hu
def midL (s : List UInt8) (k : Nat) : List UInt8 := lwS (s.take k) ++ s.drop k
theorem midL_len (s : List UInt8) (k : Nat) : (midL s k).length = s.length := by
  unfold midL
  rw [List.length_append, lwS_length, List.length_take, List.length_drop]
  omega
theorem midL_at {s : List UInt8} {k : Nat} (h : k < s.length) : byteAt (midL s k) k = byteAt s k := by
  unfold midL
  rw [byteAt_app_right _ _ _ (by rw [lwS_length, List.length_take]; omega), lwS_length, List.length_take, byteAt_drop]
  congr 1
  omega
theorem midL_put {s : List UInt8} {k : Nat} (h : k < s.length) : (midL s k).set k (lwB s[k]) = midL s (k + 1) := by
  unfold midL
  have hl : (lwS (s.take k)).length = k := by rw [lwS_length, List.length_take]; omega
  rw [List.set_append_right _ _ (by omega), hl, Nat.sub_self, List.drop_eq_getElem_cons h, List.set_cons_zero, List.take_succ_eq_append_getElem h]
  unfold lwS
  rw [List.map_append, List.map_cons, List.map_nil, List.append_assoc]
  rfl
theorem midL_keep {s : List UInt8} {k : Nat} (h : k < s.length) (hb : lwB s[k] = s[k]) : midL s k = midL s (k + 1) := by
  unfold midL
  rw [List.drop_eq_getElem_cons h, List.take_succ_eq_append_getElem h]
  unfold lwS
  rw [List.map_append, List.map_cons, List.map_nil, List.append_assoc, hb]
  rfl
theorem midL_start (s : List UInt8) : midL s 0 = s := by simp [midL, lwS]
theorem midL_end (s : List UInt8) : midL s s.length = lwS s := by simp [midL]
theorem low_eq {b : UInt8} (h : ¬ (65 ≤ bi b ∧ bi b ≤ 90)) : lwB b = b := by
  refine bi_inj ?_
  rw [bi_low]
  unfold lwI
  rw [if_neg h]
def LowRel (w : World) (g c : Nat) (s : List UInt8) (i : Value) (wr : World) : Prop := ∃ k : Nat, i = .int .i64 (k : Int) ∧ k ≤ s.length ∧ Hid (Row wr g c (midL s k)) ∧ Hid (Below w.heap.size w wr)
set_option maxRecDepth 100000 in
set_option maxHeartbeats 1000000 in
theorem clower_any (s : List UInt8) (w : World) (hs : s.length ≤ 4611686018427387904) :
    Calls Tryz.prog 33 #[Sv s] w fun e w' => e = .returned (Sv (lwS s)) ∧ Below w.heap.size w w' := by
  go_enter Tryz.func33, Tryz.ntmps33
  go_wp2_with (refine wpList_to_row rfl (.tmp 6) rfl s rfl ?_; intro g c w1 hg hrow hb; have HG := hid hg; have HR := hid hrow; have HB := hid hb; clear hg hrow hb)
  go_loopw [10] (fun i wr => LowRel w g c s i wr) (fun i _ => s.length - (intOf i).toNat)
  case atStart => exact ⟨0, rfl, Nat.zero_le _, hid (by rw [midL_start]; exact HR.out), HB⟩
  case round =>
    obtain ⟨k, rfl, hk, HR, HB⟩ := hrel
    by_cases hlt : k < s.length
    · have hat := HR.out.at_ (k := k) (by rw [midL_len]; exact hlt)
      rw [midL_at hlt] at hat
      obtain ⟨c0, f0⟩ := hat
      have HBI := hid (byteAt_getElem s k hlt)
      have qi : (0 : Int) ≤ (k : Int) ∧ (k : Int) < (s.length : Int) := by omega
      by_cases hup : 65 ≤ byteAt s k ∧ byteAt s k ≤ 90
      · obtain ⟨u1, u2⟩ := hup
        have hv : b8 (lwB s[k]) = .int .u8 (byteAt s k + 97 - 65) := by
          rw [b8_low, ← HBI.out]
          unfold lwI
          rw [if_pos ⟨u1, u2⟩]
          congr 1
          omega
        have hr := HR.out.put k (lwB s[k]) (by rw [midL_len]; exact hlt)
        rw [midL_put hlt, hv] at hr
        have HR2 := hid hr
        have HB2 := hid (below_cellAt HB.out HG.out k (.int .u8 (byteAt s k + 97 - 65)))
        clear hr hv
        go_wp2_with fail
        refine ⟨⟨k + 1, by go_num, hlt, HR2, HB2⟩, by simp [intOf] <;> omega⟩
      · have HR2 := hid (show Row wr g c (midL s (k + 1)) by rw [← midL_keep hlt (low_eq (by rw [← HBI.out]; exact hup))]; exact HR.out)
        by_cases u1 : 65 ≤ byteAt s k
        · have u2 : 90 < byteAt s k := by omega
          clear hup
          go_wp2_with fail
          refine ⟨⟨k + 1, by go_num, hlt, HR2, HB⟩, by simp [intOf] <;> omega⟩
        · have u2 : byteAt s k < 65 := by omega
          clear hup
          go_wp2_with fail
          refine ⟨⟨k + 1, by go_num, hlt, HR2, HB⟩, by simp [intOf] <;> omega⟩
    · obtain rfl : k = s.length := by omega
      have hr := HR.out.bs
      rw [midL_end, lwS_length] at hr
      have hconv := run_to_string hr
      clear hr
      go_wp2_with fail
      go_ret
      exact ⟨rfl, HB.out⟩
def ValRel (w : World) (L : List Mb) (name : List UInt8) (v i : Value) (wr : World) : Prop := ∃ (v' : Value) (k : Nat), v' = v ∧ i = .int .i64 (k : Int) ∧ k ≤ L.length ∧ Hid (OwnS wr w.heap.size v' (valsR (L.take k) name)) ∧ Hid (Below w.heap.size w wr)
set_option maxRecDepth 100000 in
set_option maxHeartbeats 4000000 in
theorem cvalues_any (A : Option Addr) (cap : Nat) (L : List Mb) (name : List UInt8) (w : World) (h : Mbs w w.heap.size A L) (hl : L.length ≤ 100000) (hN : ∀ m ∈ L, m.1.length ≤ 140737488355328) (hn : name.length ≤ 140737488355328) :
    Calls Tryz.prog 10 #[.slice A L.length cap, Sv name] w fun e w' => ∃ v, e = .returned v ∧ OwnS w' w.heap.size v (valsR L name) ∧ Below w.heap.size w w' := by
  have HO := hid h
  have HN := hid hN
  clear h hN
  have hnm := fun u => clower_any name u (by omega)
  obtain ⟨NM, hNM⟩ : ∃ NM, lwS name = NM := ⟨_, rfl⟩
  simp only [hNM] at hnm
  have HNM := hid hNM
  clear hNM
  go_enter Tryz.func10, Tryz.ntmps10
  go_wp2_with fail
  go_loopw [5, 10] (fun v i wr => ValRel w L name v i wr) (fun _ i _ => L.length - (intOf i).toNat)
  case atStart => exact ⟨_, 0, rfl, rfl, Nat.zero_le _, OwnS.nil _ _, Below.refl _ _⟩
  case round =>
    obtain ⟨v', k, hv, rfl, hk, HW, HB⟩ := hrel
    subst hv
    by_cases hlt : k < L.length
    · obtain ⟨m, hm⟩ := get_lt hlt
      obtain ⟨ad, hA, p0, p1⟩ := (HO.out.below HB.out).at_ hm
      have hml := HN.out m (List.mem_of_getElem? hm)
      have HM := hid hm
      clear hm
      subst hA
      have qi : (0 : Int) ≤ (k : Int) ∧ (k : Int) < (L.length : Int) := by omega
      have hB3 := HB.out.alloc HB.out.size (.cells #[Sv m.1, Sv m.2] 61)
      have hBK := Blk.new wr 61 #[Sv m.1, Sv m.2]
      have hW3 := HW.out.ext (ext_alloc wr (.cells #[Sv m.1, Sv m.2] 61))
      obtain ⟨W3, hW⟩ : ∃ W3, wr.alloc (.cells #[Sv m.1, Sv m.2] 61) = W3 := ⟨_, rfl⟩
      rw [hW] at hB3 hBK hW3
      have HB3 := hid hB3
      have HBK := hid hBK
      have HW3 := hid hW3
      have HWW := hid hW
      clear hB3 hBK hW3 hW
      have hlow := fun u => clower_any m.1 u (by omega)
      obtain ⟨b, hb⟩ : ∃ b, (lwS m.1 == NM) = b := ⟨_, rfl⟩
      have HV := hid (valsR_snoc (L.take k) m name)
      rw [HNM.out, hb] at HV
      generalize lwS m.1 = LM at hlow hb
      go_upto_region 5 with fail
      rw [HWW.out]
      clear HWW p0 p1
      have c0 := HBK.out.cell 0
      simp only [List.getElem?_toArray, List.getElem?_cons_zero] at c0
      go_wp2_with fail
      refine (hlow _).mono ?_; rintro e w4 ⟨rfl, hb4⟩
      have HB4 := hid (HB3.out.trans (hb4.mono HB3.out.size))
      have HBK4 := hid (HBK.out.below hb4 HBK.out.lt)
      have HW4 := hid (HW3.out.ext hb4)
      clear hb4 hlow c0 HBK HW3 HB3
      go_wp2_with fail
      refine (hnm _).mono ?_; rintro e w5 ⟨rfl, hb5⟩
      have HB5 := hid (HB4.out.trans (hb5.mono HB4.out.size))
      have HBK5 := hid (HBK4.out.below hb5 HBK4.out.lt)
      have HW5 := hid (HW4.out.ext hb5)
      clear hb5 HB4 HBK4 HW4
      cases b with
      | false =>
        have HV2 := hid (show valsR (L.take (k + 1)) name = valsR (L.take k) name by rw [take_snoc_at HM.out, HV.out, if_neg (by simp), List.append_nil])
        go_wp2_with fail
        refine ⟨⟨v', k + 1, rfl, by go_num, hlt, hid (by rw [HV2.out]; exact HW5.out), HB5⟩, by simp [intOf] <;> omega⟩
      | true =>
        have HV2 := hid (show valsR (L.take (k + 1)) name = valsR (L.take k) name ++ [m.2] by rw [take_snoc_at HM.out, HV.out, if_pos rfl])
        have c1 : w5.cell? ⟨wr.heap.size, 1, none⟩ = some (Sv m.2) := (HBK5.out.cell 1).trans rfl
        have HW7 := hid (HW5.out.ext (ext_alloc w5 (.cells #[Sv m.2] 9)))
        have HB7 := hid (HB5.out.alloc HB5.out.size (.cells #[Sv m.2] 9))
        have HC7 := hid (show (w5.alloc (.cells #[Sv m.2] 9)).cell? ⟨w5.heap.size, 0, none⟩ = some (Sv m.2) from (Blk.new w5 9 #[Sv m.2]).cell 0)
        have hcl : (valsR (L.take k) name).length + 1 ≤ 8796093022208 := by
          have := valsR_len (L.take k) name
          rw [List.length_take] at this
          omega
        go_wp2_with (refine wpList_appS rfl rfl w.heap.size v' (valsR (L.take k) name) rfl HW7.out m.2 rfl HC7.out hcl HB7.out.size ?_; intro v8 w8 hown8 hg8; have HO8 := hid hown8; have HB8 := hid (show Below w.heap.size w w8 from Below.grown HB7.out hg8 HB7.out.size (fun k hk => (World.ownsRow.lt HW7.out k hk).1)); clear hown8 hg8)
        refine ⟨⟨v8, k + 1, rfl, by go_num, hlt, hid (by rw [HV2.out]; exact HO8.out), HB8⟩, by simp [intOf] <;> omega⟩
    · obtain rfl : k = L.length := by omega
      have HW := hid (show OwnS wr w.heap.size v' (valsR L name) by have := HW.out; rwa [List.take_length] at this)
      go_wp2_with fail
      go_ret
      exact ⟨_, rfl, HW.out, HB.out⟩
end Go.Proofs.YtgfdmdikiickpaaGreatDoor

/-! CarryV -/
namespace Go.Proofs.YtgfdmdikiickpaaGreatDoor
open Go.RowKit

def codeV (code : Int) (d : Bool) : Int := if code = 0 ∧ d = true then 8 else code
def hasV (L : List Mb) (nm : List UInt8) : Bool := !(valsR L nm).isEmpty
theorem set_same {α : Type} {F : List α} {i : Nat} {b : α} (h : F[i]? = some b) : F.set i b = F := by
  apply List.ext_getElem?
  intro j
  by_cases e : i = j
  · subst e
    have hlt : i < F.length := by
      rcases Nat.lt_or_ge i F.length with q | q
      · exact q
      · rw [List.getElem?_eq_none q] at h; cases h
    rw [List.getElem?_set_self hlt, h]
  · rw [List.getElem?_set_ne e]
theorem OwnS.cells {w : World} {B : Nat} {v : Value} {L : List (List UInt8)} (h : OwnS w B v L) {a : List UInt8} {r : List (List UInt8)} (har : L = a :: r) : ∃ g c, v = .slice (some ⟨g, 0, none⟩) (r.length + 1) c ∧ B ≤ g ∧ w.cell? ⟨g, 0, none⟩ = some (Sv a) := by
  subst har
  rcases h.form with ⟨hn, _⟩ | ⟨g, c, hv, hg, _, _⟩
  · cases hn
  · refine ⟨g, c, hv, hg, ?_⟩
    subst hv
    exact h.at_ rfl rfl
theorem OwnS.nil_form {w : World} {B : Nat} {v : Value} (h : OwnS w B v []) : ∃ A c, v = .slice A 0 c := by
  rcases h.form with ⟨_, hv⟩ | ⟨g, c, hv, _, _, _⟩
  · exact ⟨_, _, hv⟩
  · exact ⟨_, _, hv⟩
set_option maxRecDepth 100000 in
set_option maxHeartbeats 4000000 in
theorem cvalue_any {w0 w : World} {F : List Bk} (h : Frm w0 w F) (i g : Nat) (A : Option Addr) (cap : Nat) (L : List Mb) (code : Int) (name : List UInt8) (hi : F[i]? = some (g, 64, #[.slice A L.length cap, .int .i64 code])) (hM : Mbs w0 w0.heap.size A L) (hl : L.length ≤ 100000) (hN : ∀ m ∈ L, m.1.length ≤ 140737488355328) (hn : name.length ≤ 140737488355328) :
    Calls Tryz.prog 54 #[.pointer (some ⟨g, 0, none⟩), Sv name] w fun e w' => e = .returned (Sv (valV L name)) ∧ Frm w0 w' (F.set i (g, 64, #[.slice A L.length cap, .int .i64 (codeV code (dbl L name))])) := by
  have HF := hid h
  have HI := hid hi
  have c0 : w.cell? ⟨g, 0, none⟩ = some (.slice A L.length cap) := h.cell i hi 0 rfl
  have hv := cvalues_any A cap L name w ((hM.below h.bel).mono_ h.bel.size) hl hN hn
  have HL := hid (valsR_len L name)
  clear h hi hM hN
  go_enter Tryz.func54, Tryz.ntmps54
  go_wp2_with fail
  refine hv.mono ?_; rintro e w1 ⟨v, rfl, ho, hb⟩
  have HF1 := hid (HF.out.call hb)
  have HO := hid ho
  have hgw : g < w.heap.size := (HF.out.get i HI.out).lt
  clear ho hb hv c0
  have d1 : w1.cell? ⟨g, 1, none⟩ = some (.int .i64 code) := HF1.out.cell i HI.out 1 rfl
  have f1 : w1.frozen? ⟨g, 1, none⟩ = false := (HF1.out.get i HI.out).frozen 1
  cases hvs : valsR L name with
  | nil =>
    have HE := hid (show valV L name = [] ∧ codeV code (dbl L name) = code by
      unfold valV dbl; rw [hvs]; exact ⟨rfl, by unfold codeV; rw [if_neg (by simp)]⟩)
    have ho := HO.out
    rw [hvs] at ho
    obtain ⟨A2, c2, hv2⟩ := ho.nil_form
    subst hv2
    clear ho hvs
    go_wp2_with fail
    go_ret
    exact ⟨by rw [HE.out.1]; rfl, by rw [HE.out.2, set_same HI.out]; exact HF1.out⟩
  | cons a r =>
    obtain ⟨g2, c2, hv2, hg2, e0⟩ := HO.out.cells hvs
    subst hv2
    have hll := HL.out
    rw [hvs, List.length_cons] at hll
    by_cases h1 : 0 < r.length
    · have hd : dbl L name = true := by unfold dbl; rw [hvs]; exact decide_eq_true (by simp only [List.length_cons]; omega)
      have q1 : (1 : Int) < (r.length : Int) + 1 := by omega
      by_cases hc : code = 0
      · have HE := hid (show valV L name = a ∧ codeV code (dbl L name) = 8 by
          unfold valV; rw [hd, hvs]; exact ⟨rfl, by unfold codeV; rw [if_pos ⟨hc, rfl⟩]⟩)
        have HF2 := hid (HF1.out.setCell i HI.out 1 (.int .i64 8))
        have e1 : (w1.setCell ⟨g, 1, none⟩ (.int .i64 8)).cell? ⟨g2, 0, none⟩ = some (Sv a) := by
          rw [World.cell?_setCell_other w1 _ _ _ (by intro e; injection e with e1 _ _; omega)]
          exact e0
        subst hc
        clear hvs hd e0
        go_wp2_with fail
        go_ret
        exact ⟨by rw [HE.out.1]; rfl, by rw [HE.out.2]; exact HF2.out⟩
      · have HE := hid (show valV L name = a ∧ codeV code (dbl L name) = code by
          unfold valV; rw [hd, hvs]; exact ⟨rfl, by unfold codeV; rw [if_neg (by simp [hc])]⟩)
        have qc : (code == 0) = false := by rw [beq_eq_false_iff_ne]; exact hc
        clear hvs hd
        go_wp2_with fail
        go_ret
        exact ⟨by rw [HE.out.1]; rfl, by rw [HE.out.2, set_same HI.out]; exact HF1.out⟩
    · have HE := hid (show valV L name = a ∧ codeV code (dbl L name) = code by
        unfold valV dbl; rw [hvs]; exact ⟨rfl, by unfold codeV; rw [if_neg (by rw [decide_eq_false (by simp only [List.length_cons]; omega)]; simp)]⟩)
      have q1 : ¬ (1 : Int) < (r.length : Int) + 1 := by omega
      have q0 : (((r.length : Int) + 1) == 0) = false := by rw [beq_eq_false_iff_ne]; omega
      clear hvs
      go_wp2_with fail
      go_ret
      exact ⟨by rw [HE.out.1]; rfl, by rw [HE.out.2, set_same HI.out]; exact HF1.out⟩
def HasRel (w : World) (L : List Mb) (nm : List UInt8) (i : Value) (wr : World) : Prop := ∃ k : Nat, i = .int .i64 (k : Int) ∧ k ≤ 1 ∧ Hid (k = 1 → valsR L nm = []) ∧ Hid (Below w.heap.size w wr)
set_option maxRecDepth 100000 in
set_option maxHeartbeats 4000000 in
theorem chas_any {w0 w : World} {F : List Bk} (h : Frm w0 w F) (i g : Nat) (A : Option Addr) (cap : Nat) (L : List Mb) (code : Int) (name : List UInt8) (g2 : Nat) (hi : F[i]? = some (g, 64, #[.slice A L.length cap, .int .i64 code])) (hM : Mbs w0 w0.heap.size A L) (hl : L.length ≤ 100000) (hN : ∀ m ∈ L, m.1.length ≤ 140737488355328) (hn : name.length ≤ 140737488355328) (hs : w.cell? ⟨g2, 0, none⟩ = some (Sv name)) (hg2 : g2 < w.heap.size) :
    Calls Tryz.prog 24 #[.pointer (some ⟨g, 0, none⟩), .slice (some ⟨g2, 0, none⟩) 1 1] w fun e w' => e = .returned (.bool (hasV L name)) ∧ Below w.heap.size w w' := by
  have HC0 := hid (show w.cell? ⟨g, 0, none⟩ = some (.slice A L.length cap) from h.cell i hi 0 rfl)
  have hgw : g < w.heap.size := (h.get i hi).lt
  have HS := hid hs
  have HMW := hid ((hM.below h.bel).mono_ h.bel.size)
  have hv := fun u (hu : Below w.heap.size w u) => cvalues_any A cap L name u (HMW.out.ext hu) hl hN hn
  have HV := hid hv
  have HL := hid (valsR_len L name)
  clear h hi hM hN hv hs
  go_enter Tryz.func24, Tryz.ntmps24
  go_wp2_with fail
  go_loopw [9] (fun i wr => HasRel w L name i wr) (fun i _ => 1 - (intOf i).toNat)
  case atStart => exact ⟨0, rfl, Nat.zero_le _, hid (fun h => by cases h), Below.refl _ _⟩
  case round =>
    obtain ⟨k, rfl, hk, HN, HB⟩ := hrel
    by_cases hlt : k < 1
    · obtain rfl : k = 0 := by omega
      have c1 : wr.cell? ⟨g2, 0, none⟩ = some (Sv name) := (HB.out.cell (p := ⟨g2, 0, none⟩) hg2).trans HS.out
      have c0 : wr.cell? ⟨g, 0, none⟩ = some (.slice A L.length cap) := (HB.out.cell (p := ⟨g, 0, none⟩) hgw).trans HC0.out
      go_wp2_with fail
      refine (HV.out wr HB.out).mono ?_; rintro e w1 ⟨v, rfl, ho, hb⟩
      have HB1 := hid (HB.out.trans (hb.mono HB.out.size))
      cases hvs : valsR L name with
      | nil =>
        rw [hvs] at ho
        obtain ⟨A2, c2, hv2⟩ := ho.nil_form
        subst hv2
        have HNN := hid hvs
        clear ho hb c0 c1 hvs
        go_wp2_with fail
        refine ⟨⟨1, by go_num, by omega, hid (fun _ => HNN.out), HB1⟩, by simp [intOf] <;> omega⟩
      | cons a r =>
        obtain ⟨g3, c3, hv3, _, _⟩ := ho.cells hvs
        subst hv3
        have HE := hid (show hasV L name = true by unfold hasV; rw [hvs]; rfl)
        have hll := HL.out
        rw [hvs, List.length_cons] at hll
        have q1 : (0 : Int) < (r.length : Int) + 1 := by omega
        clear ho hb c0 c1 hvs
        go_wp2_with fail
        go_ret
        exact ⟨by rw [HE.out]; rfl, HB1.out⟩
    · obtain rfl : k = 1 := by omega
      have HE := hid (show hasV L name = false by unfold hasV; rw [HN.out rfl]; rfl)
      go_wp2_with fail
      go_ret
      exact ⟨by rw [HE.out]; rfl, HB.out⟩
end Go.Proofs.YtgfdmdikiickpaaGreatDoor

/-! CarryX -/
namespace Go.Proofs.YtgfdmdikiickpaaGreatDoor
open Go.RowKit

def zcc : Array Value := (cc (zb 16) (zb 8) (zb 8) 0).toArray
theorem results_cv3 {fn : Func} {q r s' : Tmp} {ty : TypeId} (h : fn.results = #[.cell q ty, .tmp r, .tmp s']) (tmps : Array Value) (w : World) (g : Nat) (T : TypeId) (d : TypeDesc) (k : Int) (t s p : List UInt8)
    (hq : tmps.getD q undef = .pointer (some ⟨g, 0, none⟩)) (hb : Blk w g T (cc t s p k).toArray) (hu : Tryz.prog.underlying ty = some d) (hd : d.isRow = true) (hi : (Tryz.prog.info? ty).map (·.size) = some 33) (hl : Okc t s p) :
    (results fn tmps).run Tryz.prog w = .ok (.tuple #[Cv t s p k, tmps.getD r undef, tmps.getD s' undef]) w := by
  have hp' : tmps[q]?.getD undef = .pointer (some ⟨g, 0, none⟩) := by simpa using hq
  have hl := run_loadVar_mid (P := Tryz.prog) w g 0 ty (cc t s p k) d (fun j u hu => by rw [Nat.zero_add, hb.cell j, ← hu]; simp) hu hd (by rw [hi]; simp [cc, hl.1, hl.2.1, hl.2.2])
  simp [results, h, hp', asAddr, hl, Cv]
theorem Frm.first {w0 w : World} {b : Bk} {L : List Bk} (h : Frm w0 w (b :: L)) : Frm w0 w [b] :=
  ⟨h.bel, fun i c hi => by cases i with | zero => exact h.at_ 0 c hi | succ n => simp at hi, fun i c hi => by cases i with | zero => exact h.hi 0 c hi | succ n => simp at hi, fun i j c d hi hj e => by
    exfalso
    cases i with
    | succ n => simp at hi
    | zero => cases j with
      | succ n => simp at hj
      | zero => exact e rfl⟩
/-- What is told of headers. -/
def ExPost (w0 : World) (g0 : Nat) (r : Cx × List Mb) (e : Ending) (w' : World) : Prop :=
  ∃ v, e = .returned (.tuple #[Cv r.1.1 r.1.2.1 r.1.2.2.1 r.1.2.2.2.1, v, .int .i64 r.1.2.2.2.2]) ∧ OwnM w' (g0 + 1) 82 v r.2 ∧ Frm w0 w' [(g0, 31, zcc)]
theorem load_code {w : World} {p : Addr} {k : Int} (h : w.cell? p = some (.int .i64 k)) : (Instr.loadAt 33 (.pointer (some p))).run Tryz.prog w = .ok (.int .i64 k) w := by go_simp
theorem OwnM.nil0 (w : World) (B : Nat) (T : TypeId) : OwnM w B T (.slice none 0 0) [] := OwnM.nil w B T
section
variable {ops : Array Oper} {S : World → Prop} {Q : Act → Prop} {a : Act} {o : Oper} {rest : List Oper}
theorem steady_putCv {w0 : World} {F : List Bk} (i : Nat) {g : Nat} {T : TypeId} {t x p t0 x0 p0 : List UInt8} {k k0 : Int} {y z : Operand} (ho : o.op = .store 31 y z) (hw : Region.wanted o (yielded ops a.tmps) = true)
    (hi : F[i]? = some (g, T, (cc t0 x0 p0 k0).toArray)) (hl0 : Okc t0 x0 p0) (hl : Okc t x p) (hx : a.eval y = .pointer (some ⟨g, 0, none⟩)) (hy : a.eval z = Cv t x p k) (hS : ∀ u, S u → Frm w0 u F) (hK : ∀ u, Frm w0 u (F.set i (g, T, (cc t x p k).toArray)) → S u)
    (hn : wpSteady Tryz.prog ops S Q rest (a.put o.dst undef)) : wpSteady Tryz.prog ops S Q (o :: rest) a :=
  ⟨undef, .inl ⟨hw, fun u hu => by
    have hf := hS u hu
    have hg := hf.get i hi
    unfold Blk at hg
    unfold execOp
    simp only [ho, hx, hy, Cv, Instr.storeAt, Instr.sureAddr, Sem.run_bind, Sem.run_pure, Result.andThen_ok, run_storeVar_row u g T 31 _ _ hg (by rw [info_ctx]; simp [cc, hl.1, hl.2.1, hl.2.2]) (by simp [cc, hl.1, hl.2.1, hl.2.2, hl0.1, hl0.2.1, hl0.2.2]) (cc_one k t x p)]
    exact ⟨rfl, hK _ (hf.setRow i hi _)⟩⟩, hn⟩
theorem steady_zctx (ho : o.op = .build 31 #[]) (hw : Region.wanted o (yielded ops a.tmps) = true) (hn : wpSteady Tryz.prog ops S Q rest (a.put o.dst (Cv (zb 16) (zb 8) (zb 8) 0))) : wpSteady Tryz.prog ops S Q (o :: rest) a :=
  steady_pure hw (fun w => by
    have h := run_build (P := Tryz.prog) w 31 #[] _ built_zctx
    simp only [execOp, ho]
    simp [h, Result.andThen]
    rfl) hn
end
set_option maxRecDepth 100000 in
set_option maxHeartbeats 8000000 in
theorem csingle_any {w0 w : World} {g0 g1 : Nat} (A : Option Addr) (cap : Nat) (L : List Mb) (h : Frm w0 w [(g0, 31, zcc), (g1, 64, #[.slice A L.length cap, .int .i64 0])]) (hM : Mbs w0 w0.heap.size A L) (hS : ShortV L) (hN : ∀ m ∈ L, m.1.length ≤ 140737488355328) :
    Calls Tryz.prog 26 #[.pointer (some ⟨g1, 0, none⟩)] w (ExPost w0 g0 (exS L)) := by
  have HF := hid (h.new0 31 (n := w.heap.size) rfl)
  have hval : ∀ u, Frm w0 u [(g0, 31, zcc), (g1, 64, #[.slice A L.length cap, .int .i64 0]), (w.heap.size, 31, zcc)] → Calls Tryz.prog 54 #[.pointer (some ⟨g1, 0, none⟩), Sv [98, 51]] u fun e w' => e = .returned (Sv (valV L n3)) ∧ Frm w0 w' [(g0, 31, zcc), (g1, 64, #[.slice A L.length cap, .int .i64 (codeV 0 (dbl L n3))]), (w.heap.size, 31, zcc)] :=
    fun u hu => cvalue_any hu 1 g1 A cap L 0 n3 rfl hM (by have := hS.1; omega) hN (by decide)
  have hlen := hS.val (nm := n3) (by simp [nms])
  have hrd := fun u => breadone_any (valV L n3) u (by omega)
  have HV := hid hval
  have HX := hid (show exS L = if dbl L n3 = true then (cxBad 8, []) else (oneR (valV L n3), []) from rfl)
  have hlo : lenOk (oneR (valV L n3)) := lenOk_one _
  obtain ⟨S, hS'⟩ : ∃ S, valV L n3 = S := ⟨_, rfl⟩
  rw [hS'] at HX hlo
  simp only [hS'] at hrd
  have HSS := hid hS'
  generalize oneR S = r at hrd HX hlo
  obtain ⟨t, x, p, k, c⟩ := r
  have HOK := hid (show Okc t x p from hlo)
  unfold cxOut at hrd
  simp only at hrd
  clear hval h hM hN hS hS' hlo
  go_enter Tryz.func26, Tryz.ntmps26
  go_wp2_with fail
  refine (HV.out _ HF.out).mono ?_; rintro e w1 ⟨rfl, hf1⟩
  rw [HSS.out]
  cases hd : dbl L n3 with
  | true =>
    rw [hd] at hf1
    have HF1 := hid (show Frm w0 w1 [(g0, 31, zcc), (g1, 64, #[.slice A L.length cap, .int .i64 8]), (w.heap.size, 31, zcc)] from hf1)
    have HXX := hid (show exS L = (cxBad 8, []) by rw [HX.out, hd, if_pos rfl])
    have d1 : w1.cell? ⟨g1, 1, none⟩ = some (.int .i64 8) := HF1.out.cell 1 rfl 1 rfl
    clear hf1 hd
    go_upto_region 3 with fail
    clear d1
    refine region_steady (fun u => Frm w0 u [(g0, 31, zcc), (g1, 64, #[.slice A L.length cap, .int .i64 8]), (w.heap.size, 31, zcc)]) (by kernel_rfl) (by kernel_rfl) (HF1.out.drew) ?_
    refine steady_zctx rfl (by rfl) ?_
    try simp only [Act.put, List.setIfInBounds_toArray, List.set_cons_zero, List.set_cons_succ]
    repeat (first
      | (refine steady_off (by rfl) ?_; try simp only [Act.put, List.setIfInBounds_toArray, List.set_cons_zero, List.set_cons_succ])
      | (refine steady_pure (v := ?_) (by rfl) ?_ ?_; rotate_left; (focus (intro u; go_simp; with_reducible rfl)); try simp only [Act.put, List.setIfInBounds_toArray, List.set_cons_zero, List.set_cons_succ]))
    refine steady_load (v := .int .i64 8) 33 (.tmp 18) rfl (by rfl) (fun u h => load_code (h.cell 1 rfl 1 rfl)) ?_
    try simp only [Act.put, List.setIfInBounds_toArray, List.set_cons_zero, List.set_cons_succ]
    refine steady_putCv 2 rfl (by rfl) rfl okc_zero okc_zero rfl rfl (fun u h => h) (fun u h => h) ?_
    try simp only [Act.put]
    repeat (first
      | (refine steady_off (by rfl) ?_; try simp only [Act.put, List.setIfInBounds_toArray, List.set_cons_zero, List.set_cons_succ])
      | (refine steady_pure (v := ?_) (by rfl) ?_ ?_; rotate_left; (focus (intro u; go_simp; with_reducible rfl)); try simp only [Act.put, List.setIfInBounds_toArray, List.set_cons_zero, List.set_cons_succ]))
    refine steady_nil (fun w3 h3 => ?_)
    have HF3 := hid h3
    clear h3
    go_wp2_with fail
    exact bodyPost_ret (results_cv3 rfl _ _ _ _ _ _ _ _ _ rfl (HF3.out.get 2 rfl) Tryz.underlying31 rfl info_ctx okc_zero) rfl ⟨_, by rw [HXX.out]; rfl, by rw [HXX.out]; exact OwnM.nil _ _ _, HF3.out.first⟩
  | false =>
    rw [hd] at hf1
    have HF1 := hid (show Frm w0 w1 [(g0, 31, zcc), (g1, 64, #[.slice A L.length cap, .int .i64 0]), (w.heap.size, 31, zcc)] from hf1)
    have HXX := hid (show exS L = ((t, x, p, k, c), []) by rw [HX.out, hd, if_neg (by simp)])
    have d1 : w1.cell? ⟨g1, 1, none⟩ = some (.int .i64 0) := HF1.out.cell 1 rfl 1 rfl
    clear hf1 hd
    go_wp2_with (first
      | (go_at_call 60; refine (hrd _).mono ?_; rintro e w2 ⟨rfl, hb2⟩; have HF2 := hid ((HF1.out.call hb2).new0 31 rfl); clear hb2)
      | (refine at_store 31 (by rfl) ?_; refine wpList_putCv HF2.out 3 rfl rfl rfl okc_zero HOK.out rfl rfl ?_; intro w3 h3; have HF3 := hid h3; clear h3)
      | (refine at_load 31 (by rfl) ?_; refine wpList_loadE rfl rfl (HF3.out.loadCv 3 rfl HOK.out) rfl ?_)
      | (refine at_store 31 (by rfl) ?_; refine wpList_putCv HF3.out 2 rfl rfl rfl okc_zero HOK.out rfl rfl ?_; intro w4 h4; have HF4 := hid h4; clear h4))
    exact bodyPost_ret (results_cv3 rfl _ _ _ _ _ _ _ _ _ rfl (HF4.out.get 2 rfl) Tryz.underlying31 rfl info_ctx HOK.out) rfl ⟨_, by rw [HXX.out]; rfl, by rw [HXX.out]; exact OwnM.nil _ _ _, HF4.out.first⟩
end Go.Proofs.YtgfdmdikiickpaaGreatDoor

/-! CarryY -/
namespace Go.Proofs.YtgfdmdikiickpaaGreatDoor
open Go.RowKit

theorem wpList_zctx {ops : Array Oper} {rest : List Oper} {o : Oper} {a : Act} {w : World} {Q : Exit → Act → World → Prop} (hgd : o.guard = none) (ho : o.op = .build 31 #[]) (h : wpList Tryz.prog ops Q rest (a.put o.dst (Cv (zb 16) (zb 8) (zb 8) 0)) w) : wpList Tryz.prog ops Q (o :: rest) a w :=
  wpList_plain hgd fun K hK => by
    have hb := run_build (P := Tryz.prog) w 31 #[] _ built_zctx
    unfold Oper.wp
    simp only [execOp, ho]
    simp [hb, Result.andThen]
    exact hK _ _ h
theorem wpList_putHv {ops : Array Oper} {rest : List Oper} {o : Oper} {a : Act} {w w0 : World} {Q : Exit → Act → World → Prop} {L : List Bk} (h : Frm w0 w L) (i : Nat) {g : Nat} {T : TypeId} {v f v0 f0 : Int} {t x t0 x0 : List UInt8} {y z : Operand} (hgd : o.guard = none) (ho : o.op = .store 84 y z)
    (hi : L[i]? = some (g, T, (hc v0 t0 x0 f0).toArray)) (ht : t.length = 16) (hx : x.length = 8) (ht0 : t0.length = 16) (hx0 : x0.length = 8) (hy : a.eval y = .pointer (some ⟨g, 0, none⟩)) (hz : a.eval z = Hv v t x f)
    (hn : ∀ w', Frm w0 w' (L.set i (g, T, (hc v t x f).toArray)) → wpList Tryz.prog ops Q rest (a.put o.dst undef) w') : wpList Tryz.prog ops Q (o :: rest) a w :=
  wpList_store_hv hgd _ y z ho g T v f v0 f0 t x t0 x0 hy hz (h.get i hi) info_hdr ht hx ht0 hx0 (fun w' hw _ => hn w' (by rw [hw]; exact h.setRow i hi _))
theorem Frm.newh {w0 w : World} {L : List Bk} (h : Frm w0 w L) (T : TypeId) {n : Nat} (hn : w.heap.size = n) : Frm w0 (w.alloc (.cells #[.int .u8 0, .int .u8 0, .int .u8 0, .int .u8 0, .int .u8 0, .int .u8 0, .int .u8 0, .int .u8 0, .int .u8 0, .int .u8 0, .int .u8 0, .int .u8 0, .int .u8 0, .int .u8 0, .int .u8 0, .int .u8 0, .int .u8 0, .int .u8 0, .int .u8 0, .int .u8 0, .int .u8 0, .int .u8 0, .int .u8 0, .int .u8 0, .int .u8 0, .int .u8 0] T)) (L ++ [(n, T, (hc 0 (zb 16) (zb 8) 0).toArray)]) := h.new T _ hn
theorem codeV_0 (c : Int) : codeV c false = c := by unfold codeV; rw [if_neg (by simp)]
theorem codeV_8 (d : Bool) : codeV 8 d = 8 := by unfold codeV; rw [if_neg (by simp)]
theorem codeV_chain (a b c d e : Bool) : codeV (codeV (codeV (codeV (codeV 0 a) b) c) d) e = if (a || (b || (c || (d || e)))) = true then 8 else 0 := by
  cases a <;> cases b <;> cases c <;> cases d <;> cases e <;> rfl
set_option maxRecDepth 100000 in
set_option maxHeartbeats 8000000 in
theorem cmulti_any {w0 w : World} {g0 g1 : Nat} (A : Option Addr) (cap : Nat) (L : List Mb) (h : Frm w0 w [(g0, 31, zcc), (g1, 64, #[.slice A L.length cap, .int .i64 0])]) (hM : Mbs w0 w0.heap.size A L) (hS : ShortV L) (hN : ∀ m ∈ L, m.1.length ≤ 140737488355328) :
    Calls Tryz.prog 23 #[.pointer (some ⟨g1, 0, none⟩)] w (ExPost w0 g0 (exM L)) := by
  have HF := hid (h.new0 31 (n := w.heap.size) rfl)
  have hval : ∀ (nm : List UInt8) (code : Int) u, nm.length ≤ 140737488355328 → Frm w0 u [(g0, 31, zcc), (g1, 64, #[.slice A L.length cap, .int .i64 code]), (w.heap.size, 31, zcc)] → Calls Tryz.prog 54 #[.pointer (some ⟨g1, 0, none⟩), Sv nm] u fun e w' => e = .returned (Sv (valV L nm)) ∧ Frm w0 w' [(g0, 31, zcc), (g1, 64, #[.slice A L.length cap, .int .i64 (codeV code (dbl L nm))]), (w.heap.size, 31, zcc)] :=
    fun nm code u hnm hu => cvalue_any hu 1 g1 A cap L code nm rfl hM (by have := hS.1; omega) hN hnm
  have l1 := hS.val (nm := nT) (by simp [nms])
  have l2 := hS.val (nm := nX) (by simp [nms])
  have l3 := hS.val (nm := nP) (by simp [nms])
  have hrd := fun u => breadmulti_any (mu5 L) u ⟨by show (valV L nT).length ≤ _; omega, by show (valV L nX).length ≤ _; omega, by show (valV L nP).length ≤ _; omega⟩
  have HV := hid hval
  have HX := hid (show exM L = if dbl5 L = true then (cxBad 8, []) else (multiR (mu5 L), []) from rfl)
  have hlo := lenOk_multi (mu5 L)
  have HMU := hid (show mu5 L = (valV L nT, valV L nX, valV L nP, valV L nS, valV L nF) from rfl)
  generalize mu5 L = mu at hrd HX hlo HMU
  generalize multiR mu = r at hrd HX hlo
  obtain ⟨t, x, p, k, c⟩ := r
  have HOK := hid (show Okc t x p from hlo)
  unfold cxOut at hrd
  simp only at hrd
  clear hval h hM hN hS hlo l1 l2 l3
  go_enter Tryz.func23, Tryz.ntmps23
  go_wp2_with fail
  refine (HV.out nT _ _ (by decide) HF.out).mono ?_; rintro e w1 ⟨rfl, hf1⟩
  have HF1 := hid hf1
  clear hf1
  go_wp2_with fail
  refine (HV.out nX _ _ (by decide) HF1.out).mono ?_; rintro e w2 ⟨rfl, hf2⟩
  have HF2 := hid hf2
  clear hf2
  go_wp2_with fail
  refine (HV.out nP _ _ (by decide) HF2.out).mono ?_; rintro e w3 ⟨rfl, hf3⟩
  have HF3 := hid hf3
  clear hf3
  go_wp2_with fail
  refine (HV.out nS _ _ (by decide) HF3.out).mono ?_; rintro e w4 ⟨rfl, hf4⟩
  have HF4 := hid hf4
  clear hf4
  go_wp2_with fail
  refine (HV.out nF _ _ (by decide) HF4.out).mono ?_; rintro e w5 ⟨rfl, hf5⟩
  rw [codeV_chain] at hf5
  have HD := hid (show dbl5 L = (dbl L nT || (dbl L nX || (dbl L nP || (dbl L nS || dbl L nF)))) from rfl)
  rw [← HD.out] at hf5
  clear HD HF1 HF2 HF3 HF4 HV
  obtain ⟨vT, hvT⟩ : ∃ s, valV L nT = s := ⟨_, rfl⟩
  obtain ⟨vX, hvX⟩ : ∃ s, valV L nX = s := ⟨_, rfl⟩
  obtain ⟨vP, hvP⟩ : ∃ s, valV L nP = s := ⟨_, rfl⟩
  obtain ⟨vS, hvS⟩ : ∃ s, valV L nS = s := ⟨_, rfl⟩
  obtain ⟨vF, hvF⟩ : ∃ s, valV L nF = s := ⟨_, rfl⟩
  rw [hvT, hvX, hvP, hvS, hvF] at HMU ⊢
  clear hvT hvX hvP hvS hvF
  have hmu := HMU.out
  subst hmu
  clear HMU
  have hF6 := (show Frm w0 w5 [(g0, 31, zcc), (g1, 64, #[.slice A L.length cap, .int .i64 (if dbl5 L = true then 8 else 0)]), (w.heap.size, 31, zcc)] from hf5).new 89 (mc muNone) (n := w5.heap.size) rfl
  have HF6 := hid hF6
  clear hf5 hF6
  go_upto_region 2 with (refine wpList_putM HF6.out 3 muNone (vT, vX, vP, vS, vF) rfl rfl rfl rfl rfl ?_; intro w6 h6; have HF7 := hid h6; clear h6)
  cases hd : dbl5 L with
  | true =>
    have hf7 := HF7.out
    rw [hd, if_pos rfl] at hf7
    have HF8 := hid (show Frm w0 w6 [(g0, 31, zcc), (g1, 64, #[.slice A L.length cap, .int .i64 8]), (w.heap.size, 31, zcc), (w5.heap.size, 89, mc (vT, vX, vP, vS, vF))] from hf7)
    have HXX := hid (show exM L = (cxBad 8, []) by rw [HX.out, hd, if_pos rfl])
    have d1 : w6.cell? ⟨g1, 1, none⟩ = some (.int .i64 8) := HF8.out.cell 1 rfl 1 rfl
    clear hf7 hd HF7
    go_upto_region 3 with fail
    clear d1
    refine region_steady (fun u => Frm w0 u [(g0, 31, zcc), (g1, 64, #[.slice A L.length cap, .int .i64 8]), (w.heap.size, 31, zcc), (w5.heap.size, 89, mc (vT, vX, vP, vS, vF))]) (by kernel_rfl) (by kernel_rfl) (HF8.out.drew) ?_
    refine steady_zctx rfl (by rfl) ?_
    try simp only [Act.put, List.setIfInBounds_toArray, List.set_cons_zero, List.set_cons_succ]
    repeat (first
      | (refine steady_off (by rfl) ?_; try simp only [Act.put, List.setIfInBounds_toArray, List.set_cons_zero, List.set_cons_succ])
      | (refine steady_pure (v := ?_) (by rfl) ?_ ?_; rotate_left; (focus (intro u; go_simp; with_reducible rfl)); try simp only [Act.put, List.setIfInBounds_toArray, List.set_cons_zero, List.set_cons_succ]))
    refine steady_load (v := .int .i64 8) 33 (.tmp 27) rfl (by rfl) (fun u h => load_code (h.cell 1 rfl 1 rfl)) ?_
    try simp only [Act.put, List.setIfInBounds_toArray, List.set_cons_zero, List.set_cons_succ]
    refine steady_putCv 2 rfl (by rfl) rfl okc_zero okc_zero rfl rfl (fun u h => h) (fun u h => h) ?_
    try simp only [Act.put]
    repeat (first
      | (refine steady_off (by rfl) ?_; try simp only [Act.put, List.setIfInBounds_toArray, List.set_cons_zero, List.set_cons_succ])
      | (refine steady_pure (v := ?_) (by rfl) ?_ ?_; rotate_left; (focus (intro u; go_simp; with_reducible rfl)); try simp only [Act.put, List.setIfInBounds_toArray, List.set_cons_zero, List.set_cons_succ]))
    refine steady_nil (fun w7 h7 => ?_)
    have HF9 := hid h7
    clear h7
    go_wp2_with fail
    exact bodyPost_ret (results_cv3 rfl _ _ _ _ _ _ _ _ _ rfl (HF9.out.get 2 rfl) Tryz.underlying31 rfl info_ctx okc_zero) rfl ⟨_, by rw [HXX.out]; rfl, by rw [HXX.out]; exact OwnM.nil _ _ _, HF9.out.first⟩
  | false =>
    have hf7 := HF7.out
    rw [hd, if_neg (by simp)] at hf7
    have HF8 := hid (show Frm w0 w6 [(g0, 31, zcc), (g1, 64, #[.slice A L.length cap, .int .i64 0]), (w.heap.size, 31, zcc), (w5.heap.size, 89, mc (vT, vX, vP, vS, vF))] from hf7)
    have HXX := hid (show exM L = ((t, x, p, k, c), []) by rw [HX.out, hd, if_neg (by simp)])
    have d1 : w6.cell? ⟨g1, 1, none⟩ = some (.int .i64 0) := HF8.out.cell 1 rfl 1 rfl
    clear hf7 hd HF7
    go_wp2_with (first
      | (refine at_load 89 (by rfl) ?_; refine wpList_loadE rfl rfl (HF8.out.loadMv (m := (vT, vX, vP, vS, vF)) 3 rfl) rfl ?_)
      | (go_at_call 55; refine (hrd _).mono ?_; rintro e w7 ⟨rfl, hb7⟩; have HF9 := hid ((HF8.out.call hb7).new0 31 rfl); clear hb7)
      | (refine at_store 31 (by rfl) ?_; refine wpList_putCv HF9.out 4 rfl rfl rfl okc_zero HOK.out rfl rfl ?_; intro w8 h8; have HFa := hid h8; clear h8)
      | (refine at_load 31 (by rfl) ?_; refine wpList_loadE rfl rfl (HFa.out.loadCv 4 rfl HOK.out) rfl ?_)
      | (refine at_store 31 (by rfl) ?_; refine wpList_putCv HFa.out 2 rfl rfl rfl okc_zero HOK.out rfl rfl ?_; intro w9 h9; have HFb := hid h9; clear h9))
    exact bodyPost_ret (results_cv3 rfl _ _ _ _ _ _ _ _ _ rfl (HFb.out.get 2 rfl) Tryz.underlying31 rfl info_ctx HOK.out) rfl ⟨_, by rw [HXX.out]; rfl, by rw [HXX.out]; exact OwnM.nil _ _ _, HFb.out.first⟩
end Go.Proofs.YtgfdmdikiickpaaGreatDoor

/-! CarryW -/
namespace Go.Proofs.YtgfdmdikiickpaaGreatDoor
open Go.RowKit

theorem readS_len (s : List UInt8) : (readS s).1.length ≤ 32 := by
  by_cases h0 : (readS s).2 = 0
  · exact (readS_good h0).len
  · rw [readS_bad h0]; simp
/-- strings.Join of a list of the call's own. -/
theorem join_own {w : World} {B : Nat} {v : Value} {xs : List (List UInt8)} (h : OwnS w B v xs) (hl : xs.length ≤ 100000) (hj : (Lib.join xs [44]).length ≤ 140737488355328) :
    Calls Tryz.prog 58 #[v, Sv [44]] w fun e w' => e = .returned (Sv (Lib.join xs [44])) ∧ Below w.heap.size w w' := by
  rcases h.form with ⟨hnil, hv0⟩ | ⟨g, c, hv0, hg, hle, hcm⟩
  · subst hv0 hnil
    refine (sjoin_none none 0 [44] w).mono fun e w' ⟨he, hw⟩ => ⟨he, hw ▸ Below.refl _ _⟩
  · subst hv0
    exact sjoin_any g c xs [44] w (fun j x hx => h.at_ rfl hx) (World.ownsRow.lt h g rfl).2 (by omega) hle hj
theorem grown_setRow (w : World) (g : Nat) (cs : Array Value) : w.grownBy (w.setRow g cs) (some g) :=
  ⟨rfl, rfl, rfl, by simp [World.setRow], fun i _ hne => by
    simp only [World.setRow, Array.getElem?_modify]
    rw [if_neg (fun e => hne (by rw [e]))]⟩
theorem OwnM.setRow {w : World} {B : Nat} {T : TypeId} {v : Value} {L : List Mb} (h : OwnM w B T v L) {g : Nat} (hg : g < B) (cs : Array Value) : OwnM (w.setRow g cs) B T v L :=
  World.ownsRow.kept h (grown_setRow w g cs) (by
    cases hq : v.ownBlock with
    | none => exact .inl rfl
    | some k =>
      refine .inr (fun e => ?_)
      have := (World.ownsRow.lt h k hq).1
      injection e with e
      omega)
set_option maxRecDepth 100000 in
set_option maxHeartbeats 8000000 in
theorem cw3c_any {w0 w : World} {g0 g1 : Nat} (A : Option Addr) (cap : Nat) (L : List Mb) (h : Frm w0 w [(g0, 31, zcc), (g1, 64, #[.slice A L.length cap, .int .i64 0])]) (hM : Mbs w0 w0.heap.size A L) (hS : ShortV L) (hN : ∀ m ∈ L, m.1.length ≤ 140737488355328) :
    Calls Tryz.prog 25 #[.pointer (some ⟨g1, 0, none⟩)] w (ExPost w0 g0 (exW L)) := by
  have HF := hid (h.new0 31 (n := w.heap.size) rfl)
  have hval : ∀ u, Frm w0 u [(g0, 31, zcc), (g1, 64, #[.slice A L.length cap, .int .i64 0]), (w.heap.size, 31, zcc)] → Calls Tryz.prog 54 #[.pointer (some ⟨g1, 0, none⟩), Sv n1] u fun e w' => e = .returned (Sv (valV L n1)) ∧ Frm w0 w' [(g0, 31, zcc), (g1, 64, #[.slice A L.length cap, .int .i64 (codeV 0 (dbl L n1))]), (w.heap.size, 31, zcc)] :=
    fun u hu => cvalue_any hu 1 g1 A cap L 0 n1 rfl hM (by have := hS.1; omega) hN (by decide)
  have hlen := hS.val (nm := n1) (by simp [nms])
  have hprd := fun u => pread_any (valV L n1) u (by omega)
  have hvs := fun u (hu : Below w0.heap.size w0 u) => cvalues_any A cap L n2 u ((hM.below hu).mono_ hu.size) (by have := hS.1; omega) hN (by decide)
  have hjl := hS.join
  have hvl : (valsR L n2).length ≤ 100000 := by have := valsR_len L n2; have := hS.1; omega
  have hsrd := fun u => sread_any (Lib.join (valsR L n2) [44]) u (by omega)
  have HX := hid (show exW L = if dbl L n1 = true then (cxBad 8, []) else if (readH (valV L n1)).2.2.2.2 = 0 then (((readH (valV L n1)).2.1, (readH (valV L n1)).2.2.1, zb 8, 1 + (readH (valV L n1)).2.2.2.1 % 2, 0), (readS (Lib.join (valsR L n2) [44])).1) else (cxBad (readH (valV L n1)).2.2.2.2, []) from rfl)
  obtain ⟨ht, hx, hf0, hf1⟩ := readH_len (valV L n1)
  unfold hdrOut at hprd
  generalize (readH (valV L n1)).1 = v at *
  generalize (readH (valV L n1)).2.1 = t at *
  generalize (readH (valV L n1)).2.2.1 = x at *
  generalize (readH (valV L n1)).2.2.2.1 = f at *
  generalize (readH (valV L n1)).2.2.2.2 = c at *
  have HT := hid ht
  have HXL := hid hx
  have hctx := fun u => pctx_any v f t x u ht hx hf0 hf1
  have HV := hid hval
  have HVS := hid hvs
  have hjo := fun (v : Value) (B : Nat) u (hu : OwnS u B v (valsR L n2)) => join_own hu hvl (by omega)
  have HJO := hid hjo
  have HJS := hid hsrd
  obtain ⟨M, d, hMd⟩ : ∃ M d, readS (Lib.join (valsR L n2) [44]) = (M, d) := ⟨(readS (Lib.join (valsR L n2) [44])).1, (readS (Lib.join (valsR L n2) [44])).2, rfl⟩
  rw [hMd] at HX
  have HMD := hid hMd
  obtain ⟨S, hS'⟩ : ∃ S, valV L n1 = S := ⟨_, rfl⟩
  simp only [hS'] at hprd
  have HSS := hid hS'
  clear hval h hM hN hS hS' ht hx hvs hjo hsrd hMd hjl hvl
  go_enter Tryz.func25, Tryz.ntmps25
  go_wp2_with fail
  refine (HV.out _ HF.out).mono ?_; rintro e w1 ⟨rfl, hf1⟩
  rw [HSS.out]
  cases hd : dbl L n1 with
  | true =>
    rw [hd] at hf1
    have HF1 := hid (show Frm w0 w1 [(g0, 31, zcc), (g1, 64, #[.slice A L.length cap, .int .i64 8]), (w.heap.size, 31, zcc)] from hf1)
    have HXX := hid (show exW L = (cxBad 8, []) by rw [HX.out, hd, if_pos rfl])
    have d1 : w1.cell? ⟨g1, 1, none⟩ = some (.int .i64 8) := HF1.out.cell 1 rfl 1 rfl
    clear hf1 hd
    go_upto_region 3 with fail
    clear d1
    refine region_steady (fun u => Frm w0 u [(g0, 31, zcc), (g1, 64, #[.slice A L.length cap, .int .i64 8]), (w.heap.size, 31, zcc)]) (by kernel_rfl) (by kernel_rfl) (HF1.out.drew) ?_
    refine steady_zctx rfl (by rfl) ?_
    try simp only [Act.put, List.setIfInBounds_toArray, List.set_cons_zero, List.set_cons_succ]
    repeat (first
      | (refine steady_off (by rfl) ?_; try simp only [Act.put, List.setIfInBounds_toArray, List.set_cons_zero, List.set_cons_succ])
      | (refine steady_pure (v := ?_) (by rfl) ?_ ?_; rotate_left; (focus (intro u; go_simp; with_reducible rfl)); try simp only [Act.put, List.setIfInBounds_toArray, List.set_cons_zero, List.set_cons_succ]))
    refine steady_load (v := .int .i64 8) 33 (.tmp 20) rfl (by rfl) (fun u h => load_code (h.cell 1 rfl 1 rfl)) ?_
    try simp only [Act.put, List.setIfInBounds_toArray, List.set_cons_zero, List.set_cons_succ]
    refine steady_putCv 2 rfl (by rfl) rfl okc_zero okc_zero rfl rfl (fun u h => h) (fun u h => h) ?_
    try simp only [Act.put]
    repeat (first
      | (refine steady_off (by rfl) ?_; try simp only [Act.put, List.setIfInBounds_toArray, List.set_cons_zero, List.set_cons_succ])
      | (refine steady_pure (v := ?_) (by rfl) ?_ ?_; rotate_left; (focus (intro u; go_simp; with_reducible rfl)); try simp only [Act.put, List.setIfInBounds_toArray, List.set_cons_zero, List.set_cons_succ]))
    refine steady_nil (fun w3 h3 => ?_)
    have HF3 := hid h3
    clear h3
    go_wp2_with fail
    exact bodyPost_ret (results_cv3 rfl _ _ _ _ _ _ _ _ _ rfl (HF3.out.get 2 rfl) Tryz.underlying31 rfl info_ctx okc_zero) rfl ⟨_, by rw [HXX.out]; rfl, by rw [HXX.out]; exact OwnM.nil _ _ _, HF3.out.first⟩
  | false =>
    rw [hd] at hf1
    have HF1 := hid (show Frm w0 w1 [(g0, 31, zcc), (g1, 64, #[.slice A L.length cap, .int .i64 0]), (w.heap.size, 31, zcc)] from hf1)
    have d1 : w1.cell? ⟨g1, 1, none⟩ = some (.int .i64 0) := HF1.out.cell 1 rfl 1 rfl
    go_upto_region 5 with (first
      | (go_at_call 56; refine (hprd _).mono ?_; rintro e w2 ⟨rfl, hb2⟩; have HF2 := hid ((HF1.out.call hb2).newh 84 rfl); clear hb2)
      | (refine wpList_putHv HF2.out 3 rfl rfl rfl HT.out HXL.out (zb_length _) (zb_length _) rfl rfl ?_; intro w3 h3; have HF3 := hid h3; clear h3))
    clear d1
    by_cases hc : c = 0
    · have HXX := hid (show exW L = ((t, x, zb 8, 1 + f % 2, 0), M) by rw [HX.out, hd, if_neg (by simp), if_pos hc])
      subst hc
      have e0 : w3.cell? ⟨g1, 0, none⟩ = some (.slice A L.length cap) := HF3.out.cell 1 rfl 0 rfl
      clear hf1 hd
      go_wp2_with fail
      refine (HVS.out w3 HF3.out.bel).mono ?_; rintro e w4 ⟨v4, rfl, ho4, hb4⟩
      have HF4 := hid (HF3.out.call hb4)
      have HO4 := hid ho4
      clear hb4 ho4 e0
      go_wp2_with fail
      refine (HJO.out v4 _ w4 HO4.out).mono ?_; rintro e w5 ⟨rfl, hb5⟩
      have HF5 := hid (HF4.out.call hb5)
      clear hb5
      go_wp2_with fail
      refine (HJS.out w5).mono ?_; rintro e w6 ⟨v6, rfl, ho6, hb6⟩
      rw [HMD.out] at ho6
      have HF6 := hid (HF5.out.call hb6)
      have HO6 := hid ho6
      have hlt2 : w.heap.size < w5.heap.size := (HF5.out.get 2 rfl).lt
      clear hb6 ho6
      go_wp2_with (first
        | (refine wpList_load_hv rfl 84 (.tmp 6) rfl _ _ _ v f t x rfl (HF6.out.get 3 rfl) Tryz.underlying84 rfl info_hdr HT.out HXL.out ?_)
        | (go_at_call 59; refine (hctx _).mono ?_; rintro e w7 ⟨rfl, hb7⟩; have HF7 := hid (HF6.out.call hb7); have HO7 := hid (HO6.out.ext hb7); clear hb7)
        | (refine wpList_store_cv rfl 31 _ _ rfl w.heap.size 31 _ 0 t x (zb 8) (zb 16) (zb 8) (zb 8) rfl rfl (HF7.out.get 2 rfl) info_ctx HT.out HXL.out (zb_length 8) (zb_length 16) (zb_length 8) (zb_length 8) ?_; intro w8 hw8 _; have HF8 := hid (show Frm w0 w8 _ by rw [hw8]; exact HF7.out.setRow 2 rfl _); have HO8 := hid (show OwnM w8 w5.heap.size 82 v6 M by rw [hw8]; exact HO7.out.setRow hlt2 _); clear hw8))
      exact bodyPost_ret (results_cv3 rfl _ _ _ _ _ _ _ _ _ rfl (HF8.out.get 2 rfl) Tryz.underlying31 rfl info_ctx ⟨HT.out, HXL.out, zb_length 8⟩) rfl ⟨_, by rw [HXX.out]; rfl, by rw [HXX.out]; exact HO8.out.mono_ (by have := (HF5.out.get 0 rfl).lt; omega), HF8.out.first⟩
    · have HXX := hid (show exW L = (cxBad c, []) by rw [HX.out, hd, if_neg (by simp), if_neg hc])
      have qc : (c == 0) = false := by rw [beq_eq_false_iff_ne]; exact hc
      have qc2 : (c != 0) = true := by rw [bne_iff_ne]; exact hc
      clear hf1 hd
      go_wp2_with (first
        | (refine wpList_zctx rfl rfl ?_)
        | (refine at_store 31 (by rfl) ?_; refine wpList_putCv HF3.out 2 rfl rfl rfl okc_zero okc_zero rfl rfl ?_; intro w4 h4; have HF4 := hid h4; clear h4))
      exact bodyPost_ret (results_cv3 rfl _ _ _ _ _ _ _ _ _ rfl (HF4.out.get 2 rfl) Tryz.underlying31 rfl info_ctx okc_zero) rfl ⟨_, by rw [HXX.out]; rfl, by rw [HXX.out]; exact OwnM.nil _ _ _, HF4.out.first⟩
/-- What Extract gives. -/
def exOut (r : Cx × List Mb) (v : Value) : Value := .tuple #[Cv r.1.1 r.1.2.1 r.1.2.2.1 r.1.2.2.2.1, v, .int .i64 r.1.2.2.2.2]
theorem readS_ok (L : List Mb) : Okc (exR L).1.1 (exR L).1.2.1 (exR L).1.2.2.1 := by
  unfold exR exW exS exM
  repeat' split
  all_goals first
    | exact lenOk_bad _
    | exact lenOk_one _
    | exact lenOk_multi _
    | exact ⟨(readH_len _).1, (readH_len _).2.1, zb_length 8⟩
theorem hasV_no {L : List Mb} {nm : List UInt8} (h : hasV L nm = false) : valsR L nm = [] := by
  unfold hasV at h
  cases hv : valsR L nm with
  | nil => rfl
  | cons a r => rw [hv] at h; cases h
theorem hasV_yes {L : List Mb} {nm : List UInt8} (h : hasV L nm = true) : valsR L nm ≠ [] := by
  intro e
  unfold hasV at h
  rw [e] at h
  cases h
set_option maxRecDepth 100000 in
set_option maxHeartbeats 8000000 in
theorem cextract_any (A : Option Addr) (cap : Nat) (L : List Mb) (w : World) (hM : Mbs w w.heap.size A L) (hS : ShortV L) (hN : ∀ m ∈ L, m.1.length ≤ 140737488355328) :
    Calls Tryz.prog 7 #[.slice A L.length cap] w fun e w' => ∃ v, e = .returned (exOut (exR L) v) ∧ OwnM w' w.heap.size 82 v (exR L).2 ∧ Below w.heap.size w w' := by
  have hl : L.length ≤ 100000 := by have := hS.1; omega
  have hF0 : Frm w _ [(w.heap.size, 31, zcc), (w.heap.size + 1, 64, #[.slice A L.length cap, .int .i64 0])] := ((Frm.start w).new0 31 (n := w.heap.size) rfl).new 64 #[.slice A L.length cap, .int .i64 0] (n := w.heap.size + 1) (by simp)
  obtain ⟨W2, hW2⟩ : ∃ W2, (w.alloc (.cells #[.int .u8 0, .int .u8 0, .int .u8 0, .int .u8 0, .int .u8 0, .int .u8 0, .int .u8 0, .int .u8 0, .int .u8 0, .int .u8 0, .int .u8 0, .int .u8 0, .int .u8 0, .int .u8 0, .int .u8 0, .int .u8 0, .int .u8 0, .int .u8 0, .int .u8 0, .int .u8 0, .int .u8 0, .int .u8 0, .int .u8 0, .int .u8 0, .int .u8 0, .int .u8 0, .int .u8 0, .int .u8 0, .int .u8 0, .int .u8 0, .int .u8 0, .int .u8 0, .int .i64 0] 31)).alloc (.cells #[.slice A L.length cap, .int .i64 0] 64) = W2 := ⟨_, rfl⟩
  rw [hW2] at hF0
  have HF := hid hF0
  have HW2 := hid hW2
  clear hF0 hW2
  have hhas := fun (u : World) (nm : List UInt8) (g2 : Nat) (hu : Frm w u [(w.heap.size, 31, zcc), (w.heap.size + 1, 64, #[.slice A L.length cap, .int .i64 0])]) (hn : nm.length ≤ 140737488355328) (hs : u.cell? ⟨g2, 0, none⟩ = some (Sv nm)) (hg2 : g2 < u.heap.size) => chas_any hu 1 (w.heap.size + 1) A cap L 0 nm g2 rfl hM hl hN hn hs hg2
  have HH := hid hhas
  have HOK := hid (readS_ok L)
  have h1 := fun (u : World) (hu : Frm w u [(w.heap.size, 31, zcc), (w.heap.size + 1, 64, #[.slice A L.length cap, .int .i64 0])]) => cw3c_any A cap L hu hM hS hN
  have h2 := fun (u : World) (hu : Frm w u [(w.heap.size, 31, zcc), (w.heap.size + 1, 64, #[.slice A L.length cap, .int .i64 0])]) => csingle_any A cap L hu hM hS hN
  have h3 := fun (u : World) (hu : Frm w u [(w.heap.size, 31, zcc), (w.heap.size + 1, 64, #[.slice A L.length cap, .int .i64 0])]) => cmulti_any A cap L hu hM hS hN
  have H1 := hid h1
  have H2 := hid h2
  have H3 := hid h3
  have HE1 := hid (fun (h : valsR L n1 ≠ []) => (show exR L = exW L from if_pos h))
  have HE2 := hid (fun (h : valsR L n1 = []) (h2 : valsR L n3 ≠ []) => (show exR L = exS L by unfold exR; rw [if_neg (by simpa using h), if_pos h2]))
  have HE3 := hid (fun (h : valsR L n1 = []) (h2 : valsR L n3 = []) => (show exR L = exM L by unfold exR; rw [if_neg (by simpa using h), if_neg (by simpa using h2)]))
  clear hM hS hN hl hhas h1 h2 h3
  go_enter Tryz.func7, Tryz.ntmps7
  obtain ⟨R, hR⟩ : ∃ R, exR L = R := ⟨_, rfl⟩
  rw [hR] at HOK HE1 HE2 HE3 ⊢
  clear hR
  go_upto_region 3 with fail
  rw [HW2.out]
  clear HW2
  have HA := hid (HF.out.call (ext_alloc W2 (.cells #[Sv n1] 9)))
  have hA := fun (hs : (W2.alloc (.cells #[Sv n1] 9)).cell? ⟨W2.heap.size, 0, none⟩ = some (Sv n1)) => HH.out _ n1 W2.heap.size HA.out (by decide) hs (by simp)
  have hA2 := hA ((Blk.new W2 9 #[Sv n1]).cell 0)
  obtain ⟨b1, hb1⟩ : ∃ b, hasV L n1 = b := ⟨_, rfl⟩
  rw [hb1] at hA2
  have HA2 := hid hA2
  clear hA hA2
  cases b1 with
  | true =>
    have HE := hid (HE1.out (hasV_yes hb1))
    clear HE1 HE2 HE3 hb1 H2 H3
    go_upto_region 4 with ((go_at_call 24; refine HA2.out.mono ?_; rintro e w3 ⟨rfl, hb3⟩; have HF3 := hid (HA.out.call hb3); clear hb3))
    go_wp2_with fail
    refine (H1.out _ HF3.out).mono ?_; rintro e w7 ⟨v7, rfl, ho7, hf7⟩
    rw [← HE.out] at ho7 ⊢
    have HF7 := hid hf7
    have HO7 := hid ho7
    clear ho7 hf7
    obtain ⟨⟨t, x, p, k, c⟩, M⟩ := R
    go_wp2_with (refine wpList_store_cv rfl 31 _ _ rfl w.heap.size 31 k 0 t x p (zb 16) (zb 8) (zb 8) rfl rfl (HF7.out.get 0 rfl) info_ctx HOK.out.1 HOK.out.2.1 HOK.out.2.2 (zb_length 16) (zb_length 8) (zb_length 8) ?_; intro w8 hw8 _; have HF8 := hid (show Frm w w8 _ by rw [hw8]; exact HF7.out.setRow 0 rfl _); have HO8 := hid (show OwnM w8 (w.heap.size + 1) 82 v7 M by rw [hw8]; exact HO7.out.setRow (Nat.lt_succ_self _) _); clear hw8)
    exact bodyPost_ret (results_cv3 rfl _ _ _ _ _ _ _ _ _ rfl (HF8.out.get 0 rfl) Tryz.underlying31 rfl info_ctx HOK.out) rfl ⟨_, rfl, HO8.out.mono_ (Nat.le_succ _), HF8.out.bel⟩

  | false =>
    have hno := hasV_no hb1
    have HN1 := hid hno
    clear HE1 hb1 hno H1
    go_upto_region 5 with ((go_at_call 24; refine HA2.out.mono ?_; rintro e w3 ⟨rfl, hb3⟩; have HF3 := hid (HA.out.call hb3); clear hb3))
    clear HA HA2 HF
    have HA := hid (HF3.out.call (ext_alloc w3 (.cells #[Sv n3] 9)))
    have hA := fun (hs : (w3.alloc (.cells #[Sv n3] 9)).cell? ⟨w3.heap.size, 0, none⟩ = some (Sv n3)) => HH.out _ n3 w3.heap.size HA.out (by decide) hs (by simp)
    have hA2 := hA ((Blk.new w3 9 #[Sv n3]).cell 0)
    obtain ⟨b3, hb3⟩ : ∃ b, hasV L n3 = b := ⟨_, rfl⟩
    rw [hb3] at hA2
    have HA2 := hid hA2
    clear hA hA2
    cases b3 with
    | true =>
      have HE := hid (HE2.out HN1.out (hasV_yes hb3))
      clear HE2 HE3 hb3 H3
      go_upto_region 6 with ((go_at_call 24; refine HA2.out.mono ?_; rintro e w4 ⟨rfl, hb4⟩; have HF4 := hid (HA.out.call hb4); clear hb4))
      go_wp2_with fail
      refine (H2.out _ HF4.out).mono ?_; rintro e w7 ⟨v7, rfl, ho7, hf7⟩
      rw [← HE.out] at ho7 ⊢
      have HF7 := hid hf7
      have HO7 := hid ho7
      clear ho7 hf7
      obtain ⟨⟨t, x, p, k, c⟩, M⟩ := R
      go_wp2_with (refine wpList_store_cv rfl 31 _ _ rfl w.heap.size 31 k 0 t x p (zb 16) (zb 8) (zb 8) rfl rfl (HF7.out.get 0 rfl) info_ctx HOK.out.1 HOK.out.2.1 HOK.out.2.2 (zb_length 16) (zb_length 8) (zb_length 8) ?_; intro w8 hw8 _; have HF8 := hid (show Frm w w8 _ by rw [hw8]; exact HF7.out.setRow 0 rfl _); have HO8 := hid (show OwnM w8 (w.heap.size + 1) 82 v7 M by rw [hw8]; exact HO7.out.setRow (Nat.lt_succ_self _) _); clear hw8)
      exact bodyPost_ret (results_cv3 rfl _ _ _ _ _ _ _ _ _ rfl (HF8.out.get 0 rfl) Tryz.underlying31 rfl info_ctx HOK.out) rfl ⟨_, rfl, HO8.out.mono_ (Nat.le_succ _), HF8.out.bel⟩

    | false =>
      have HE := hid (HE3.out HN1.out (hasV_no hb3))
      clear HE2 HE3 hb3 H2
      go_wp2_with ((go_at_call 24; refine HA2.out.mono ?_; rintro e w4 ⟨rfl, hb4⟩; have HF4 := hid (HA.out.call hb4); clear hb4))
      refine (H3.out _ HF4.out).mono ?_; rintro e w7 ⟨v7, rfl, ho7, hf7⟩
      rw [← HE.out] at ho7 ⊢
      have HF7 := hid hf7
      have HO7 := hid ho7
      clear ho7 hf7
      obtain ⟨⟨t, x, p, k, c⟩, M⟩ := R
      go_wp2_with (refine wpList_store_cv rfl 31 _ _ rfl w.heap.size 31 k 0 t x p (zb 16) (zb 8) (zb 8) rfl rfl (HF7.out.get 0 rfl) info_ctx HOK.out.1 HOK.out.2.1 HOK.out.2.2 (zb_length 16) (zb_length 8) (zb_length 8) ?_; intro w8 hw8 _; have HF8 := hid (show Frm w w8 _ by rw [hw8]; exact HF7.out.setRow 0 rfl _); have HO8 := hid (show OwnM w8 (w.heap.size + 1) 82 v7 M by rw [hw8]; exact HO7.out.setRow (Nat.lt_succ_self _) _); clear hw8)
      exact bodyPost_ret (results_cv3 rfl _ _ _ _ _ _ _ _ _ rfl (HF8.out.get 0 rfl) Tryz.underlying31 rfl info_ctx HOK.out) rfl ⟨_, rfl, HO8.out.mono_ (Nat.le_succ _), HF8.out.bel⟩

end Go.Proofs.YtgfdmdikiickpaaGreatDoor
