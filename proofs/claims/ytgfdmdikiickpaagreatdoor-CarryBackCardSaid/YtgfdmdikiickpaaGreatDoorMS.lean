/-
  Texts for the laws of this seat, merged: CarryB, CarryR.
-/
import Derived.Test.YtgfdmdikiickpaaGreatDoorME
import Derived.Test.YtgfdmdikiickpaaGreatDoorMG
import Derived.Test.YtgfdmdikiickpaaGreatDoorML
import Derived.Test.YtgfdmdikiickpaaGreatDoorMM
import Derived.Test.YtgfdmdikiickpaaGreatDoorMP
import Derived.Test.YtgfdmdikiickpaaGreatDoorMQ
import Derived.Test.YtgfdmdikiickpaaGreatDoorMR
/-! CarryB -/
namespace Go.Proofs.YtgfdmdikiickpaaGreatDoor
open Go.RowKit

theorem lwS_at {s : List UInt8} {k : Nat} (h : k < s.length) : lwS (s.take (k + 1)) = lwS (s.take k) ++ [lwB s[k]] := by
  rw [List.take_succ_eq_append_getElem h]
  unfold lwS
  rw [List.map_append]
  rfl
def SmRel (w : World) (a b : List UInt8) (i : Value) (wr : World) : Prop := ∃ k : Nat, i = .int .i64 (k : Int) ∧ k ≤ a.length ∧ Hid (lwS (a.take k) = lwS (b.take k)) ∧ Hid (Below w.heap.size w wr)
set_option maxRecDepth 100000 in
set_option maxHeartbeats 4000000 in
theorem rsame46_any (a b : List UInt8) (w : World) (ha : a.length ≤ 4611686018427387904) (_hb : b.length ≤ 4611686018427387904) :
    Calls Tryz.prog 34 #[Sv a, Sv b] w fun e w' => e = .returned (.bool (lwS a == lwS b)) ∧ Below w.heap.size w w' := by
  by_cases hlen : a.length = b.length
  · have HL := hid hlen
    go_enter Tryz.func34, Tryz.ntmps34
    go_wp2_with fail
    go_loopw [5] (fun i wr => SmRel w a b i wr) (fun i _ => a.length - (intOf i).toNat)
    case atStart => exact ⟨0, rfl, Nat.zero_le _, hid rfl, Below.refl _ _⟩
    case round =>
      obtain ⟨k, rfl, hk, HT, HB⟩ := hrel
      by_cases hlk : k < a.length
      · have hlk2 : k < b.length := by have := HL.out; omega
        have qa : (0 : Int) ≤ (k : Int) ∧ (k : Int) < (a.length : Int) := by omega
        have qb : (0 : Int) ≤ (k : Int) ∧ (k : Int) < (b.length : Int) := by omega
        have HX := hid (show lwS (a.take (k + 1)) = lwS (a.take k) ++ [lwB a[k]] from lwS_at hlk)
        have HY := hid (show lwS (b.take (k + 1)) = lwS (b.take k) ++ [lwB b[k]] from lwS_at hlk2)
        have HXI := hid (show bi (lwB a[k]) = lwI (byteAt a k) by rw [bi_low, byteAt_getElem a k hlk])
        have HYI := hid (show bi (lwB b[k]) = lwI (byteAt b k) by rw [bi_low, byteAt_getElem b k hlk2])
        have x0 := byteAt_lo a k
        have x1 := byteAt_hi a k
        have y0 := byteAt_lo b k
        have y1 := byteAt_hi b k
        have HNO := hid (fun (h : lwI (byteAt a k) ≠ lwI (byteAt b k)) => (show (lwS a == lwS b) = false by
          rw [beq_eq_false_iff_ne]
          intro e
          apply h
          have e2 : (lwS a)[k]? = (lwS b)[k]? := by rw [e]
          unfold lwS at e2
          rw [List.getElem?_map, List.getElem?_map, List.getElem?_eq_getElem hlk, List.getElem?_eq_getElem hlk2] at e2
          have e3 : lwB a[k] = lwB b[k] := Option.some.inj e2
          rw [← HXI.out, ← HYI.out, e3]))
        have HYES := hid (fun (h : lwI (byteAt a k) = lwI (byteAt b k)) => (show lwS (a.take (k + 1)) = lwS (b.take (k + 1)) by
          rw [HX.out, HY.out, HT.out, show lwB a[k] = lwB b[k] from bi_inj (by rw [HXI.out, HYI.out, h])]))
        go_upto_region 6 with fail
        refine region_steady (fun u => Below w.heap.size w u) (by kernel_rfl) (by kernel_rfl) (HB.out.trans ((ext_drew wr).mono HB.out.size)) ?_
        repeat (first
          | (refine steady_off (by rfl) ?_; try simp only [Act.put, List.setIfInBounds_toArray, List.set_cons_zero, List.set_cons_succ])
          | (refine steady_pure (v := ?_) (by rfl) ?_ ?_; rotate_left; (focus (intro u; go_simp; with_reducible rfl)); try simp only [Act.put, List.setIfInBounds_toArray, List.set_cons_zero, List.set_cons_succ]))
        refine steady_nil (fun w1 h1 => ?_)
        have HB1 := hid h1
        clear h1
        go_wp2_with fail
        all_goals try simp only [bne_iff_ne, ne_eq, bne_eq_false_iff_eq, beq_eq_false_iff_ne] at *
        all_goals first
          | (refine ⟨⟨k + 1, by go_num, hlk, hid (HYES.out (by unfold lwI; split <;> split <;> omega)), HB1⟩, by simp [intOf] <;> omega⟩)
          | (go_ret
             exact ⟨by rw [show (lwS a == lwS b) = false by simpa using HNO.out (by unfold lwI; split <;> split <;> omega)]; rfl, HB1.out⟩)
      · obtain rfl : k = a.length := by omega
        have HR := hid (show (lwS a == lwS b) = true by
          have := HT.out
          rw [List.take_length, HL.out, List.take_length] at this
          simpa using this)
        go_wp2_with fail
        go_ret
        exact ⟨by rw [HR.out]; rfl, HB.out⟩
  · have HR := hid (show (lwS a == lwS b) = false by
      rw [beq_eq_false_iff_ne]
      intro e
      have := congrArg List.length e
      rw [lwS_length, lwS_length] at this
      exact hlen this)
    have q : ((a.length : Int) == (b.length : Int)) = false := by rw [beq_eq_false_iff_ne]; omega
    go_enter Tryz.func34, Tryz.ntmps34
    go_wp2_with fail
    go_ret
    exact ⟨by rw [HR.out]; rfl, Below.refl _ _⟩
def ValRelR (w : World) (L : List Mb) (name : List UInt8) (v i : Value) (wr : World) : Prop := ∃ (v' : Value) (k : Nat), v' = v ∧ i = .int .i64 (k : Int) ∧ k ≤ L.length ∧ Hid (OwnS wr w.heap.size v' (valsR (L.take k) name)) ∧ Hid (Below w.heap.size w wr)
set_option maxRecDepth 100000 in
set_option maxHeartbeats 4000000 in
theorem rvalues_any (A : Option Addr) (cap : Nat) (L : List Mb) (name : List UInt8) (w : World) (h : Mbs w w.heap.size A L) (hl : L.length ≤ 100000) (hN : ∀ m ∈ L, m.1.length ≤ 140737488355328) (hn : name.length ≤ 140737488355328) :
    Calls Tryz.prog 11 #[.slice A L.length cap, Sv name] w fun e w' => ∃ v, e = .returned v ∧ OwnS w' w.heap.size v (valsR L name) ∧ Below w.heap.size w w' := by
  have HO := hid h
  have HN := hid hN
  clear h hN
  go_enter Tryz.func11, Tryz.ntmps11
  go_wp2_with fail
  go_loopw [5, 6] (fun v i wr => ValRelR w L name v i wr) (fun _ i _ => L.length - (intOf i).toNat)
  case atStart => exact ⟨_, 0, rfl, rfl, Nat.zero_le _, OwnS.nil _ _, Below.refl _ _⟩
  case round =>
    obtain ⟨v', k, hv, rfl, hk, HW, HB⟩ := hrel
    subst hv
    by_cases hlt : k < L.length
    · obtain ⟨m, hm⟩ := get_lt hlt
      obtain ⟨ad, hA, p0, p1⟩ := (HO.out.below HB.out).at_ hm
      have hml := HN.out m (List.mem_of_getElem? hm)
      have HM := hid hm
      clear hm
      have hsm := fun u => rsame46_any m.1 name u (by omega) (by omega)
      obtain ⟨b, hb⟩ : ∃ b, (lwS m.1 == lwS name) = b := ⟨_, rfl⟩
      have HV := hid (valsR_snoc (L.take k) m name)
      rw [hb] at HV
      simp only [hb] at hsm
      clear hb
      have qi : (0 : Int) ≤ (k : Int) ∧ (k : Int) < (L.length : Int) := by omega
      subst hA
      go_wp2_with fail
      refine (hsm _).mono ?_; rintro e w5 ⟨rfl, hb5⟩
      have HB5 := hid (HB.out.trans (hb5.mono HB.out.size))
      have HW5 := hid (HW.out.ext hb5)
      clear hb5 hsm p0 p1
      cases b with
      | false =>
        have HV2 := hid (show valsR (L.take (k + 1)) name = valsR (L.take k) name by rw [take_snoc_at HM.out, HV.out, if_neg (by simp), List.append_nil])
        go_wp2_with fail
        refine ⟨⟨v', k + 1, rfl, by go_num, hlt, hid (by rw [HV2.out]; exact HW5.out), HB5⟩, by simp [intOf] <;> omega⟩
      | true =>
        have HV2 := hid (show valsR (L.take (k + 1)) name = valsR (L.take k) name ++ [m.2] by rw [take_snoc_at HM.out, HV.out, if_pos rfl])
        obtain ⟨ad', hA', c0, c1⟩ := (HO.out.below HB5.out).at_ HM.out
        obtain rfl := Option.some.inj hA'
        have HW7 := hid (HW5.out.ext (ext_alloc w5 (.cells #[Sv m.2] 9)))
        have HB7 := hid (HB5.out.alloc HB5.out.size (.cells #[Sv m.2] 9))
        have HC7 := hid (show (w5.alloc (.cells #[Sv m.2] 9)).cell? ⟨w5.heap.size, 0, none⟩ = some (Sv m.2) from (Blk.new w5 9 #[Sv m.2]).cell 0)
        have hcl : (valsR (L.take k) name).length + 1 ≤ 8796093022208 := by
          have := valsR_len (L.take k) name
          rw [List.length_take] at this
          omega
        clear hA'
        go_wp2_with (refine wpList_appS rfl rfl w.heap.size v' (valsR (L.take k) name) rfl HW7.out m.2 rfl HC7.out hcl HB7.out.size ?_; intro v8 w8 hown8 hg8; have HO8 := hid hown8; have HB8 := hid (show Below w.heap.size w w8 from Below.grown HB7.out hg8 HB7.out.size (fun k hk => (World.ownsRow.lt HW7.out k hk).1)); clear hown8 hg8)
        refine ⟨⟨v8, k + 1, rfl, by go_num, hlt, hid (by rw [HV2.out]; exact HO8.out), HB8⟩, by simp [intOf] <;> omega⟩
    · obtain rfl : k = L.length := by omega
      have HW := hid (show OwnS wr w.heap.size v' (valsR L name) by have := HW.out; rwa [List.take_length] at this)
      go_wp2_with fail
      go_ret
      exact ⟨_, rfl, HW.out, HB.out⟩
set_option maxRecDepth 100000 in
theorem rone_any (A : Option Addr) (cap : Nat) (L : List Mb) (name : List UInt8) (w : World) (h : Mbs w w.heap.size A L) (hl : L.length ≤ 100000) (hN : ∀ m ∈ L, m.1.length ≤ 140737488355328) (hn : name.length ≤ 140737488355328) :
    Calls Tryz.prog 27 #[.slice A L.length cap, Sv name] w fun e w' => e = .returned (.tuple #[Sv (valV L name), .bool (dbl L name)]) ∧ Below w.heap.size w w' := by
  have hv := rvalues_any A cap L name w h hl hN hn
  have HL := hid (valsR_len L name)
  clear h hN
  go_enter Tryz.func27, Tryz.ntmps27
  go_wp2_with fail
  refine hv.mono ?_; rintro e w1 ⟨v, rfl, ho, hb⟩
  have HO := hid ho
  have HB := hid hb
  clear ho hb hv
  rcases HO.out.form with ⟨hnil, hv0⟩ | ⟨g, c, hv0, hg, hle, hcm⟩
  · subst hv0
    have HE := hid (show valV L name = [] ∧ dbl L name = false by unfold valV dbl; rw [hnil]; exact ⟨rfl, rfl⟩)
    clear hnil
    go_wp2_with fail
    go_ret2
    exact ⟨by rw [HE.out.1, HE.out.2]; rfl, HB.out⟩
  · subst hv0
    obtain ⟨a, r, har⟩ : ∃ a r, valsR L name = a :: r ∨ valsR L name = [] := by
      cases valsR L name with
      | nil => exact ⟨[], [], .inr rfl⟩
      | cons a r => exact ⟨a, r, .inl rfl⟩
    rcases har with har | har
    · have HE := hid (show valV L name = a ∧ dbl L name = decide (1 < (a :: r).length) by unfold valV dbl; rw [har]; exact ⟨rfl, rfl⟩)
      have c0 := HO.out.at_ (k := 0) (s := a) rfl (by rw [har]; rfl)
      have hlen : (valsR L name).length = r.length + 1 := by rw [har]; rfl
      have hll := HL.out
      rw [hlen] at hle hll ⊢
      have q0 : (0 : Int) < (r.length : Int) + 1 := by omega
      have HLE := hid hlen
      clear hlen har
      by_cases h1 : 0 < r.length
      · have q1 : (1 : Int) < (r.length : Int) + 1 := by omega
        have HD := hid (show decide (1 < (a :: r).length) = true from decide_eq_true (by simp only [List.length_cons]; omega))
        go_wp2_with fail
        go_ret2
        exact ⟨by rw [HE.out.1, HE.out.2, HD.out]; first | rfl | (simp [*]; done), HB.out⟩
      · have q1 : ¬ (1 : Int) < (r.length : Int) + 1 := by omega
        have HD := hid (show decide (1 < (a :: r).length) = false from decide_eq_false (by simp only [List.length_cons]; omega))
        go_wp2_with fail
        go_ret2
        exact ⟨by rw [HE.out.1, HE.out.2, HD.out]; first | rfl | (simp [*]; done), HB.out⟩
    · have HE := hid (show valV L name = [] ∧ dbl L name = false by unfold valV dbl; rw [har]; exact ⟨rfl, rfl⟩)
      rw [har]
      clear har
      go_wp2_with fail
      go_ret2
      exact ⟨by rw [HE.out.1, HE.out.2]; rfl, HB.out⟩
def JoRel (w : World) (xs : List (List UInt8)) (v i : Value) (wr : World) : Prop := ∃ (T : List UInt8) (k : Nat), v = Sv T ∧ i = .int .i64 (k : Int) ∧ k ≤ xs.length ∧ Hid (T = Lib.join (xs.take k) [44]) ∧ wr = w
set_option maxRecDepth 100000 in
set_option maxHeartbeats 4000000 in
theorem rjoined_any (g cap : Nat) (xs : List (List UInt8)) (w : World) (hc : ∀ (j : Nat) x, xs[j]? = some x → w.cell? ⟨g, j, none⟩ = some (Sv x)) (hl : xs.length ≤ 100000) (hB : ∀ x ∈ xs, x.length ≤ 1048576) :
    Calls Tryz.prog 29 #[.slice (some ⟨g, 0, none⟩) xs.length cap] w fun e w' => e = .returned (Sv (Lib.join xs [44])) ∧ w = w' := by
  have HC := hid hc
  have HBB := hid hB
  clear hc hB
  go_enter Tryz.func29, Tryz.ntmps29
  go_wp2_with fail
  try simp only [string_Sv]
  go_loopw [3, 4] (fun v i wr => JoRel w xs v i wr) (fun _ i _ => xs.length - (intOf i).toNat)
  case atStart => exact ⟨[], 0, rfl, rfl, Nat.zero_le _, hid (by simp [Lib.join, List.intercalate]), rfl⟩
  case round =>
    obtain ⟨T, k, rfl, rfl, hk, HT, rfl⟩ := hrel
    have hTl : T.length ≤ 100000 * (1048576 + 1) := by
      rw [HT.out]
      refine Nat.le_trans (join_len _ 1048576 (fun x hx => HBB.out x (List.mem_of_mem_take hx))) (Nat.mul_le_mul_right _ ?_)
      rw [List.length_take]; omega
    by_cases hlt : k < xs.length
    · obtain ⟨x, hx⟩ := get_lt hlt
      have hxl := HBB.out x (List.mem_of_getElem? hx)
      have c0 := HC.out k x hx
      have HX := hid hx
      clear hx
      have qi : (0 : Int) ≤ (k : Int) ∧ (k : Int) < (xs.length : Int) := by omega
      by_cases h0 : k = 0
      · subst h0
        have hT0 : T = [] := by rw [HT.out]; simp [Lib.join, List.intercalate]
        subst hT0
        have HT2 := hid (show x = Lib.join (xs.take 1) [44] by rw [take_snoc_at HX.out, List.take_zero, join_snoc, if_pos rfl])
        go_wp2_with fail
        refine ⟨⟨_, 1, rfl, by go_num, hlt, hid (by rw [← HT2.out]; try simp), rfl⟩, by simp [intOf] <;> omega⟩
      · have HT2 := hid (show Lib.join (xs.take (k + 1)) [44] = T ++ 44 :: x by rw [take_snoc_at HX.out, join_snoc, if_neg (list_no hlt h0), HT.out])
        have hk0 : 0 < k := by omega
        have hk1 : (0 : Int) < (k : Int) := by omega
        go_wp2_with fail
        refine ⟨⟨_, k + 1, rfl, by go_num, hlt, hid (by rw [HT2.out]; try simp), rfl⟩, by simp [intOf] <;> omega⟩
    · obtain rfl : k = xs.length := by omega
      have HT2 := hid (show Lib.join xs [44] = T by rw [HT.out, List.take_length])
      go_wp2_with fail
      go_ret
      exact ⟨by rw [HT2.out]; rfl, rfl⟩
end Go.Proofs.YtgfdmdikiickpaaGreatDoor

/-! CarryR -/
namespace Go.Proofs.YtgfdmdikiickpaaGreatDoor
open Go.RowKit

theorem wpList_putRh {ops : Array Oper} {rest : List Oper} {o : Oper} {a : Act} {w w0 : World} {Q : Exit → Act → World → Prop} {L : List Bk} (h : Frm w0 w L) (i : Nat) {g : Nat} {T : TypeId} {v f v0 f0 : Int} {t x t0 x0 : List UInt8} {y z : Operand} (hgd : o.guard = none) (ho : o.op = .store 56 y z)
    (hi : L[i]? = some (g, T, (hc v0 t0 x0 f0).toArray)) (ht : t.length = 16) (hx : x.length = 8) (ht0 : t0.length = 16) (hx0 : x0.length = 8) (hy : a.eval y = .pointer (some ⟨g, 0, none⟩)) (hz : a.eval z = Hv v t x f)
    (hn : ∀ w', Frm w0 w' (L.set i (g, T, (hc v t x f).toArray)) → wpList Tryz.prog ops Q rest (a.put o.dst undef) w') : wpList Tryz.prog ops Q (o :: rest) a w :=
  wpList_store_hv hgd _ y z ho g T v f v0 f0 t x t0 x0 hy hz (h.get i hi) info_rhdr ht hx ht0 hx0 (fun w' hw _ => hn w' (by rw [hw]; exact h.setRow i hi _))
theorem valsR_split {L : List Mb} {nm : List UInt8} {w : World} {B : Nat} {v : Value} (h : OwnS w B v (valsR L nm)) : (hasV L nm = true ∧ ∃ A c n, v = .slice A n c ∧ 0 < n ∧ n ≤ L.length) ∨ (hasV L nm = false ∧ ∃ A c, v = .slice A 0 c) := by
  have hl := valsR_len L nm
  cases hv : valsR L nm with
  | nil =>
    rw [hv] at h
    exact .inr ⟨by unfold hasV; rw [hv]; rfl, h.nil_form⟩
  | cons a r =>
    obtain ⟨A, c, e⟩ := h.lenform
    rw [hv] at e hl
    exact .inl ⟨by unfold hasV; rw [hv]; rfl, A, c, _, e, by simp, by simpa using hl⟩
def ExPostR (w0 : World) (r : Cx × List Mb) (e : Ending) (w' : World) : Prop :=
  ∃ v, e = .returned (.tuple #[Cv r.1.1 r.1.2.1 r.1.2.2.1 r.1.2.2.2.1, v, .int .i64 r.1.2.2.2.2]) ∧ OwnM w' w0.heap.size 81 v r.2 ∧ Below w0.heap.size w0 w'
set_option maxRecDepth 100000 in
theorem rjoined_nil (w : World) : Calls Tryz.prog 29 #[.slice none 0 0] w fun e w' => e = .returned (Sv []) ∧ w = w' := by
  go_enter Tryz.func29, Tryz.ntmps29
  go_wp2_with fail
  try simp only [string_Sv]
  go_loopw [3, 4] (fun v i wr => JoRel w [] v i wr) (fun _ i _ => 0 - (intOf i).toNat)
  case atStart => exact ⟨[], 0, rfl, rfl, Nat.zero_le _, hid (by simp [Lib.join, List.intercalate]), rfl⟩
  case round =>
    obtain ⟨T, k, rfl, rfl, hk, HT, rfl⟩ := hrel
    obtain rfl : k = 0 := by simpa using hk
    have HT2 := hid (show T = [] by rw [HT.out]; simp [Lib.join, List.intercalate])
    go_wp2_with fail
    go_ret
    exact ⟨by rw [← HT2.out]; rfl, rfl⟩
theorem join_ownR {w : World} {B : Nat} {v : Value} {xs : List (List UInt8)} (h : OwnS w B v xs) (hl : xs.length ≤ 100000) (hB : ∀ x ∈ xs, x.length ≤ 1048576) :
    Calls Tryz.prog 29 #[v] w fun e w' => e = .returned (Sv (Lib.join xs [44])) ∧ w = w' := by
  rcases h.form with ⟨hnil, hv0⟩ | ⟨g, c, hv0, _, _, _⟩
  · subst hv0 hnil
    exact rjoined_nil w
  · subst hv0
    exact rjoined_any g c xs w (fun j x hx => h.at_ rfl hx) hl hB
set_option maxRecDepth 100000 in
set_option maxHeartbeats 8000000 in
theorem rextract_any (A : Option Addr) (cap : Nat) (L : List Mb) (w : World) (hM : Mbs w w.heap.size A L) (hS : ShortV L) (hN : ∀ m ∈ L, m.1.length ≤ 140737488355328) :
    Calls Tryz.prog 9 #[.slice A L.length cap] w (ExPostR w (exR L)) := by
  have hl : L.length ≤ 100000 := by have := hS.1; omega
  have HL := hid hS.1
  have hF0 : Frm w _ [(w.heap.size, 31, zcc)] := (Frm.start w).new0 31 (n := w.heap.size) rfl
  obtain ⟨W2, hW2⟩ : ∃ W2, w.alloc (.cells #[.int .u8 0, .int .u8 0, .int .u8 0, .int .u8 0, .int .u8 0, .int .u8 0, .int .u8 0, .int .u8 0, .int .u8 0, .int .u8 0, .int .u8 0, .int .u8 0, .int .u8 0, .int .u8 0, .int .u8 0, .int .u8 0, .int .u8 0, .int .u8 0, .int .u8 0, .int .u8 0, .int .u8 0, .int .u8 0, .int .u8 0, .int .u8 0, .int .u8 0, .int .u8 0, .int .u8 0, .int .u8 0, .int .u8 0, .int .u8 0, .int .u8 0, .int .u8 0, .int .i64 0] 31) = W2 := ⟨_, rfl⟩
  rw [hW2] at hF0
  have HF := hid hF0
  have HW2 := hid hW2
  clear hF0 hW2
  have HONE := hid (fun (nm : List UInt8) (hn : nm.length ≤ 1000) u (hu : Below w.heap.size w u) => rone_any A cap L nm u ((hM.below hu).mono_ hu.size) hl hN (by omega))
  have HVAL := hid (fun (nm : List UInt8) (hn : nm.length ≤ 1000) u (hu : Below w.heap.size w u) => rvalues_any A cap L nm u ((hM.below hu).mono_ hu.size) hl hN (by omega))
  have HSV := hid hS
  have HE1 := hid (fun (h : valsR L n1 ≠ []) => (show exR L = exW L from if_pos h))
  have HE2 := hid (fun (h : valsR L n1 = []) (h2 : valsR L n3 ≠ []) => (show exR L = exS L by unfold exR; rw [if_neg (by simpa using h), if_pos h2]))
  have HE3 := hid (fun (h : valsR L n1 = []) (h2 : valsR L n3 = []) => (show exR L = exM L by unfold exR; rw [if_neg (by simpa using h), if_neg (by simpa using h2)]))
  obtain ⟨R, hR⟩ : ∃ R, exR L = R := ⟨_, rfl⟩
  rw [hR] at HE1 HE2 HE3 ⊢
  clear hM hS hN hl hR
  go_enter Tryz.func9, Tryz.ntmps9
  go_upto_region 1 with fail
  rw [HW2.out]
  clear HW2
  go_wp2_with fail
  refine (HONE.out n1 (by decide) W2 HF.out.bel).mono ?_; rintro e w1 ⟨rfl, hb1⟩
  have HF1 := hid (HF.out.call hb1)
  clear hb1
  go_wp2_with fail
  refine (HVAL.out n1 (by decide) w1 HF1.out.bel).mono ?_; rintro e w2 ⟨v2, rfl, ho2, hb2⟩
  have HF2 := hid (HF1.out.call hb2)
  rcases valsR_split ho2 with ⟨hh, A2, c2, k2, hv2, hk2, hk3⟩ | ⟨hh, A2, c2, hv2⟩
  · subst hv2
    have HE := hid (HE1.out (hasV_yes hh))
    have q2 : (0 : Int) < (k2 : Int) := by omega
    have hk4 : k2 ≤ 1000 := by have := HL.out; omega
    clear hh ho2 hb2 HE1 HE2 HE3 HF HF1
    cases hd : dbl L n1 with
    | true =>
      have HXX := hid (show R = (cxBad 8, []) by rw [HE.out]; unfold exW; rw [if_pos hd])
      clear hd
      go_wp2_with (first
        | (refine wpList_zctx rfl rfl ?_)
        | (refine at_store 31 (by rfl) ?_; refine wpList_putCv HF2.out 0 rfl rfl rfl okc_zero okc_zero rfl rfl ?_; intro w4 h4; have HF4 := hid h4; clear h4))
      exact bodyPost_ret (results_cv3 rfl _ _ _ _ _ _ _ _ _ rfl (HF4.out.get 0 rfl) Tryz.underlying31 rfl info_ctx okc_zero) rfl ⟨_, by rw [HXX.out]; rfl, by rw [HXX.out]; exact OwnM.nil _ _ _, HF4.out.bel⟩
    | false =>
      have hlen := HSV.out.val (nm := n1) (by simp [nms])
      have hprd := fun u => rhread_any (valV L n1) u (by omega)
      have hjl := HSV.out.join
      have hsrd := fun u => rread44_any (Lib.join (valsR L n2) [44]) u (by omega)
      have HX := hid (show R = if (readH (valV L n1)).2.2.2.2 = 0 then (((readH (valV L n1)).2.1, (readH (valV L n1)).2.2.1, zb 8, 1 + (readH (valV L n1)).2.2.2.1 % 2, 0), (readS (Lib.join (valsR L n2) [44])).1) else (cxBad (readH (valV L n1)).2.2.2.2, []) by
        rw [HE.out]; unfold exW; rw [if_neg (by rw [hd]; simp)])
      obtain ⟨ht, hx, hf0, hf1⟩ := readH_len (valV L n1)
      unfold hdrOut at hprd
      generalize (readH (valV L n1)).1 = v at *
      generalize (readH (valV L n1)).2.1 = t at *
      generalize (readH (valV L n1)).2.2.1 = x at *
      generalize (readH (valV L n1)).2.2.2.1 = f at *
      generalize (readH (valV L n1)).2.2.2.2 = c at *
      have HT := hid ht
      have HXL := hid hx
      have hctx := fun u => rctx_any v f t x u ht hx hf0 hf1
      have HJO := hid (fun (v : Value) (B : Nat) u (hu : OwnS u B v (valsR L n2)) => join_ownR hu (by have := valsR_len L n2; have := HL.out; omega) (HSV.out.2 n2 (by simp [nms])))
      have HJS := hid hsrd
      obtain ⟨M, d, hMd⟩ : ∃ M d, readS (Lib.join (valsR L n2) [44]) = (M, d) := ⟨(readS (Lib.join (valsR L n2) [44])).1, (readS (Lib.join (valsR L n2) [44])).2, rfl⟩
      rw [hMd] at HX
      have HMD := hid hMd
      obtain ⟨S, hS'⟩ : ∃ S, valV L n1 = S := ⟨_, rfl⟩
      simp only [hS'] at hprd
      rw [hS']
      clear hd hlen hjl hsrd ht hx hMd hS'
      go_upto_region 6 with (first
        | (go_at_call 28; refine (hprd _).mono ?_; rintro e w3 ⟨rfl, hb3⟩; have HF3 := hid ((HF2.out.call hb3).newh 56 rfl); clear hb3)
        | (refine wpList_putRh HF3.out 1 rfl rfl rfl HT.out HXL.out (zb_length _) (zb_length _) rfl rfl ?_; intro w4 h4; have HF4 := hid h4; clear h4))
      by_cases hc : c = 0
      · have HXX := hid (show R = ((t, x, zb 8, 1 + f % 2, 0), M) by rw [HX.out, if_pos hc])
        subst hc
        go_wp2_with fail
        refine (HVAL.out n2 (by decide) w4 HF4.out.bel).mono ?_; rintro e w5 ⟨v5, rfl, ho5, hb5⟩
        have HF5 := hid (HF4.out.call hb5)
        have HO5 := hid ho5
        clear hb5 ho5
        go_wp2_with fail
        refine (HJO.out v5 _ w5 HO5.out).mono ?_; rintro e w6 ⟨rfl, rfl⟩
        go_wp2_with fail
        refine (HJS.out _).mono ?_; rintro e w7 ⟨v7, rfl, ho7, hb7⟩
        rw [HMD.out] at ho7
        have HF7 := hid (HF5.out.call hb7)
        have HO7 := hid ho7
        have hlt2 : w.heap.size < w5.heap.size := (HF5.out.get 0 rfl).lt
        clear hb7 ho7
        go_wp2_with (first
          | (refine wpList_load_hv rfl 56 (.tmp 7) rfl _ _ _ v f t x rfl (HF7.out.get 1 rfl) Tryz.underlying56 rfl info_rhdr HT.out HXL.out ?_)
          | (go_at_call 30; refine (hctx _).mono ?_; rintro e w8 ⟨rfl, hb8⟩; have HF8 := hid (HF7.out.call hb8); have HO8 := hid (HO7.out.ext hb8); clear hb8)
          | (refine wpList_store_cv rfl 31 _ _ rfl w.heap.size 31 _ 0 t x (zb 8) (zb 16) (zb 8) (zb 8) rfl rfl (HF8.out.get 0 rfl) info_ctx HT.out HXL.out (zb_length 8) (zb_length 16) (zb_length 8) (zb_length 8) ?_; intro w9 hw9 _; have HF9 := hid (show Frm w w9 _ by rw [hw9]; exact HF8.out.setRow 0 rfl _); have HO9 := hid (show OwnM w9 w5.heap.size 81 v7 M by rw [hw9]; exact HO8.out.setRow hlt2 _); clear hw9))
        exact bodyPost_ret (results_cv3 rfl _ _ _ _ _ _ _ _ _ rfl (HF9.out.get 0 rfl) Tryz.underlying31 rfl info_ctx ⟨HT.out, HXL.out, zb_length 8⟩) rfl ⟨_, by rw [HXX.out]; rfl, by rw [HXX.out]; exact HO9.out.mono_ (by omega), HF9.out.bel⟩
      · have HXX := hid (show R = (cxBad c, []) by rw [HX.out, if_neg hc])
        have qc : (c == 0) = false := by rw [beq_eq_false_iff_ne]; exact hc
        have qc2 : (c != 0) = true := by rw [bne_iff_ne]; exact hc
        go_wp2_with (first
          | (refine wpList_zctx rfl rfl ?_)
          | (refine at_store 31 (by rfl) ?_; refine wpList_putCv HF4.out 0 rfl rfl rfl okc_zero okc_zero rfl rfl ?_; intro w5 h5; have HF5 := hid h5; clear h5))
        exact bodyPost_ret (results_cv3 rfl _ _ _ _ _ _ _ _ _ rfl (HF5.out.get 0 rfl) Tryz.underlying31 rfl info_ctx okc_zero) rfl ⟨_, by rw [HXX.out]; rfl, by rw [HXX.out]; exact OwnM.nil _ _ _, HF5.out.bel⟩
  · subst hv2
    have HN1 := hid (hasV_no hh)
    clear hh ho2 hb2 HE1 HF HF1
    go_wp2_with fail
    refine (HONE.out n3 (by decide) w2 HF2.out.bel).mono ?_; rintro e w3 ⟨rfl, hb3⟩
    have HF3 := hid (HF2.out.call hb3)
    clear hb3
    go_wp2_with fail
    refine (HVAL.out n3 (by decide) w3 HF3.out.bel).mono ?_; rintro e w4 ⟨v4, rfl, ho4, hb4⟩
    have HF4 := hid (HF3.out.call hb4)
    rcases valsR_split ho4 with ⟨hh, A4, c4, k4, hv4, hk4, hk5⟩ | ⟨hh, A4, c4, hv4⟩
    · subst hv4
      have HE := hid (HE2.out HN1.out (hasV_yes hh))
      have q4 : (0 : Int) < (k4 : Int) := by omega
      have hk6 : k4 ≤ 1000 := by have := HL.out; omega
      clear hh ho4 hb4 HE2 HE3 HF2 HF3
      cases hd : dbl L n3 with
      | true =>
        have HXX := hid (show R = (cxBad 8, []) by rw [HE.out]; unfold exS; rw [if_pos hd])
        clear hd
        go_wp2_with (first
          | (refine wpList_zctx rfl rfl ?_)
          | (refine at_store 31 (by rfl) ?_; refine wpList_putCv HF4.out 0 rfl rfl rfl okc_zero okc_zero rfl rfl ?_; intro w5 h5; have HF5 := hid h5; clear h5))
        exact bodyPost_ret (results_cv3 rfl _ _ _ _ _ _ _ _ _ rfl (HF5.out.get 0 rfl) Tryz.underlying31 rfl info_ctx okc_zero) rfl ⟨_, by rw [HXX.out]; rfl, by rw [HXX.out]; exact OwnM.nil _ _ _, HF5.out.bel⟩
      | false =>
        have hlen := HSV.out.val (nm := n3) (by simp [nms])
        have hrd := fun u => rreadone_any (valV L n3) u (by omega)
        have HX := hid (show R = (oneR (valV L n3), []) by rw [HE.out]; unfold exS; rw [if_neg (by rw [hd]; simp)])
        have hlo : lenOk (oneR (valV L n3)) := lenOk_one _
        obtain ⟨S, hS'⟩ : ∃ S, valV L n3 = S := ⟨_, rfl⟩
        rw [hS'] at HX hlo ⊢
        simp only [hS'] at hrd
        generalize oneR S = r at hrd HX hlo
        obtain ⟨t, x, p, k, c⟩ := r
        have HOK := hid (show Okc t x p from hlo)
        unfold cxOut at hrd
        simp only at hrd
        clear hd hlen hlo hS'
        go_wp2_with (first
          | (go_at_call 31; refine (hrd _).mono ?_; rintro e w5 ⟨rfl, hb5⟩; have HF5 := hid ((HF4.out.call hb5).new0 31 rfl); clear hb5)
          | (refine at_store 31 (by rfl) ?_; refine wpList_putCv HF5.out 1 rfl rfl rfl okc_zero HOK.out rfl rfl ?_; intro w6 h6; have HF6 := hid h6; clear h6)
          | (refine at_load 31 (by rfl) ?_; refine wpList_loadE rfl rfl (HF6.out.loadCv 1 rfl HOK.out) rfl ?_)
          | (refine at_store 31 (by rfl) ?_; refine wpList_putCv HF6.out 0 rfl rfl rfl okc_zero HOK.out rfl rfl ?_; intro w7 h7; have HF7 := hid h7; clear h7))
        exact bodyPost_ret (results_cv3 rfl _ _ _ _ _ _ _ _ _ rfl (HF7.out.get 0 rfl) Tryz.underlying31 rfl info_ctx HOK.out) rfl ⟨_, by rw [HX.out]; rfl, by rw [HX.out]; exact OwnM.nil _ _ _, HF7.out.bel⟩
    · subst hv4
      have HE := hid (HE3.out HN1.out (hasV_no hh))
      clear hh ho4 hb4 HE2 HE3 HF2 HF3
      have l1 := HSV.out.val (nm := nT) (by simp [nms])
      have l2 := HSV.out.val (nm := nX) (by simp [nms])
      have l3 := HSV.out.val (nm := nP) (by simp [nms])
      have hrd := fun u => rreadmulti_any (mu5 L) u ⟨by show (valV L nT).length ≤ _; omega, by show (valV L nX).length ≤ _; omega, by show (valV L nP).length ≤ _; omega⟩
      have HX := hid (show R = if dbl5 L = true then (cxBad 8, []) else (multiR (mu5 L), []) by rw [HE.out]; rfl)
      have hlo := lenOk_multi (mu5 L)
      have HMU := hid (show mu5 L = (valV L nT, valV L nX, valV L nP, valV L nS, valV L nF) from rfl)
      generalize mu5 L = mu at hrd HX hlo HMU
      generalize multiR mu = r at hrd HX hlo
      obtain ⟨t, x, p, k, c⟩ := r
      have HOK := hid (show Okc t x p from hlo)
      unfold cxOut at hrd
      simp only at hrd
      clear hlo l1 l2 l3
      go_wp2_with fail
      refine (HONE.out nT (by decide) _ HF4.out.bel).mono ?_; rintro e w5 ⟨rfl, hb5⟩
      have HF5 := hid (HF4.out.call hb5)
      clear hb5
      go_wp2_with fail
      refine (HONE.out nX (by decide) _ HF5.out.bel).mono ?_; rintro e w6 ⟨rfl, hb6⟩
      have HF6 := hid (HF5.out.call hb6)
      clear hb6
      go_wp2_with fail
      refine (HONE.out nP (by decide) _ HF6.out.bel).mono ?_; rintro e w7 ⟨rfl, hb7⟩
      have HF7 := hid (HF6.out.call hb7)
      clear hb7
      go_wp2_with fail
      refine (HONE.out nS (by decide) _ HF7.out.bel).mono ?_; rintro e w8 ⟨rfl, hb8⟩
      have HF8 := hid (HF7.out.call hb8)
      clear hb8
      go_wp2_with fail
      refine (HONE.out nF (by decide) _ HF8.out.bel).mono ?_; rintro e w9 ⟨rfl, hb9⟩
      have HF9 := hid (HF8.out.call hb9)
      clear hb9 HF4 HF5 HF6 HF7 HF8
      have HD := hid (show dbl5 L = (dbl L nT || (dbl L nX || (dbl L nP || (dbl L nS || dbl L nF)))) from rfl)
      obtain ⟨vT, hvT⟩ : ∃ s, valV L nT = s := ⟨_, rfl⟩
      obtain ⟨vX, hvX⟩ : ∃ s, valV L nX = s := ⟨_, rfl⟩
      obtain ⟨vP, hvP⟩ : ∃ s, valV L nP = s := ⟨_, rfl⟩
      obtain ⟨vS, hvS⟩ : ∃ s, valV L nS = s := ⟨_, rfl⟩
      obtain ⟨vF, hvF⟩ : ∃ s, valV L nF = s := ⟨_, rfl⟩
      rw [hvT, hvX, hvP, hvS, hvF] at HMU ⊢
      clear hvT hvX hvP hvS hvF
      have hmu := HMU.out
      subst hmu
      clear HMU
      obtain ⟨dT, hdT⟩ : ∃ b, dbl L nT = b := ⟨_, rfl⟩
      obtain ⟨dX, hdX⟩ : ∃ b, dbl L nX = b := ⟨_, rfl⟩
      obtain ⟨dP, hdP⟩ : ∃ b, dbl L nP = b := ⟨_, rfl⟩
      obtain ⟨dS, hdS⟩ : ∃ b, dbl L nS = b := ⟨_, rfl⟩
      obtain ⟨dF, hdF⟩ : ∃ b, dbl L nF = b := ⟨_, rfl⟩
      rw [hdT, hdX, hdP, hdS, hdF] at HD ⊢
      clear hdT hdX hdP hdS hdF
      by_cases hall : dT = false ∧ dX = false ∧ dP = false ∧ dS = false ∧ dF = false
      · obtain ⟨rfl, rfl, rfl, rfl, rfl⟩ := hall
        have HXX := hid (show R = ((t, x, p, k, c), []) by rw [HX.out, HD.out, if_neg (by simp)])
        clear HX HD
        go_wp2_with (first
          | (go_at_call 32; refine (hrd _).mono ?_; rintro e wa ⟨rfl, hba⟩; have HFa := hid ((HF9.out.call hba).new0 31 rfl); clear hba)
          | (refine at_store 31 (by rfl) ?_; refine wpList_putCv HFa.out 1 rfl rfl rfl okc_zero HOK.out rfl rfl ?_; intro wb hb; have HFb := hid hb; clear hb)
          | (refine at_load 31 (by rfl) ?_; refine wpList_loadE rfl rfl (HFb.out.loadCv 1 rfl HOK.out) rfl ?_)
          | (refine at_store 31 (by rfl) ?_; refine wpList_putCv HFb.out 0 rfl rfl rfl okc_zero HOK.out rfl rfl ?_; intro wc hc'; have HFc := hid hc'; clear hc'))
        exact bodyPost_ret (results_cv3 rfl _ _ _ _ _ _ _ _ _ rfl (HFc.out.get 0 rfl) Tryz.underlying31 rfl info_ctx HOK.out) rfl ⟨_, by rw [HXX.out]; rfl, by rw [HXX.out]; exact OwnM.nil _ _ _, HFc.out.bel⟩
      · have HXX := hid (show R = (cxBad 8, []) by
          rw [HX.out, HD.out, if_pos]
          revert hall
          cases dT <;> cases dX <;> cases dP <;> cases dS <;> cases dF <;> simp)
        clear HX HD
        cases dT with
        | true =>
          go_wp2_with (first
            | (refine wpList_zctx rfl rfl ?_)
            | (refine at_store 31 (by rfl) ?_; refine wpList_putCv HF9.out 0 rfl rfl rfl okc_zero okc_zero rfl rfl ?_; intro wa ha; have HFa := hid ha; clear ha))
          exact bodyPost_ret (results_cv3 rfl _ _ _ _ _ _ _ _ _ rfl (HFa.out.get 0 rfl) Tryz.underlying31 rfl info_ctx okc_zero) rfl ⟨_, by rw [HXX.out]; rfl, by rw [HXX.out]; exact OwnM.nil _ _ _, HFa.out.bel⟩
        | false =>
          cases dX with
          | true =>
            go_wp2_with (first
              | (refine wpList_zctx rfl rfl ?_)
              | (refine at_store 31 (by rfl) ?_; refine wpList_putCv HF9.out 0 rfl rfl rfl okc_zero okc_zero rfl rfl ?_; intro wa ha; have HFa := hid ha; clear ha))
            exact bodyPost_ret (results_cv3 rfl _ _ _ _ _ _ _ _ _ rfl (HFa.out.get 0 rfl) Tryz.underlying31 rfl info_ctx okc_zero) rfl ⟨_, by rw [HXX.out]; rfl, by rw [HXX.out]; exact OwnM.nil _ _ _, HFa.out.bel⟩
          | false =>
            cases dP with
            | true =>
              go_wp2_with (first
                | (refine wpList_zctx rfl rfl ?_)
                | (refine at_store 31 (by rfl) ?_; refine wpList_putCv HF9.out 0 rfl rfl rfl okc_zero okc_zero rfl rfl ?_; intro wa ha; have HFa := hid ha; clear ha))
              exact bodyPost_ret (results_cv3 rfl _ _ _ _ _ _ _ _ _ rfl (HFa.out.get 0 rfl) Tryz.underlying31 rfl info_ctx okc_zero) rfl ⟨_, by rw [HXX.out]; rfl, by rw [HXX.out]; exact OwnM.nil _ _ _, HFa.out.bel⟩
            | false =>
              cases dS with
              | true =>
                go_wp2_with (first
                  | (refine wpList_zctx rfl rfl ?_)
                  | (refine at_store 31 (by rfl) ?_; refine wpList_putCv HF9.out 0 rfl rfl rfl okc_zero okc_zero rfl rfl ?_; intro wa ha; have HFa := hid ha; clear ha))
                exact bodyPost_ret (results_cv3 rfl _ _ _ _ _ _ _ _ _ rfl (HFa.out.get 0 rfl) Tryz.underlying31 rfl info_ctx okc_zero) rfl ⟨_, by rw [HXX.out]; rfl, by rw [HXX.out]; exact OwnM.nil _ _ _, HFa.out.bel⟩
              | false =>
                cases dF with
                | true =>
                  go_wp2_with (first
                    | (refine wpList_zctx rfl rfl ?_)
                    | (refine at_store 31 (by rfl) ?_; refine wpList_putCv HF9.out 0 rfl rfl rfl okc_zero okc_zero rfl rfl ?_; intro wa ha; have HFa := hid ha; clear ha))
                  exact bodyPost_ret (results_cv3 rfl _ _ _ _ _ _ _ _ _ rfl (HFa.out.get 0 rfl) Tryz.underlying31 rfl info_ctx okc_zero) rfl ⟨_, by rw [HXX.out]; rfl, by rw [HXX.out]; exact OwnM.nil _ _ _, HFa.out.bel⟩
                | false => exact absurd ⟨rfl, rfl, rfl, rfl, rfl⟩ hall
end Go.Proofs.YtgfdmdikiickpaaGreatDoor
