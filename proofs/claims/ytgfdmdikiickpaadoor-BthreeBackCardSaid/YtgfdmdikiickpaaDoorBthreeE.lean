/-
  Walks of package b3: ReadOne.
-/
import Derived.Test.YtgfdmdikiickpaaDoorBthreeD
namespace Go.Proofs.YtgfdmdikiickpaaDoor
open Go.RowKit

theorem cutB_mem {c : UInt8} : ∀ {s : List UInt8}, c ∈ s → 2 ≤ (cutB c s).length
  | x :: r, h => by
    have hne := cutB_ne c r
    have h1 : 1 ≤ (cutB c r).length := by
      cases hq : cutB c r with
      | nil => exact absurd hq hne
      | cons a t => simp
    by_cases e : x = c
    · subst e
      rw [cutB_eq]
      simp only [List.length_cons]; omega
    · have hr : c ∈ r := by
        rcases List.mem_cons.1 h with q | q
        · exact absurd q.symm e
        · exact q
      have := cutB_mem hr
      rw [cutB_cons e]
      simp only [List.length_cons, List.length_tail]; omega
theorem cutB_one {c : UInt8} {s : List UInt8} (h : (cutB c s).length = 1) : cutB c s = [s] :=
  cutB_none (fun hm => by have := cutB_mem hm; omega)
theorem cutB_pos (c : UInt8) (s : List UInt8) : 1 ≤ (cutB c s).length := by
  cases h : cutB c s with
  | nil => exact absurd h (cutB_ne c s)
  | cons a t => simp
theorem meth_one (n : Nat) (s : List UInt8) (w : World) : (method (n + 1) 66 (Sv s) "truchman/b3.parts").run Tryd.prog w = .ok (139, Sv s) w := by kernel_rfl
theorem meth_many (n : Nat) (A : Option Addr) (k c : Nat) (w : World) : (method (n + 1) 70 (.slice A k c) "truchman/b3.parts").run Tryd.prog w = .ok (140, .slice A k c) w := by kernel_rfl
theorem ta_one (s : List UInt8) (w : World) : (Instr.typeAssert (.iface 66 (Sv s)) 63 66 true).run Tryd.prog w = .ok (.tuple #[Sv s, .bool true]) w := by kernel_rfl
theorem ta_miss (A : Option Addr) (k c : Nat) (w : World) : (Instr.typeAssert (.iface 70 (.slice A k c)) 63 66 true).run Tryd.prog w = .ok (.tuple #[Sv [], .bool false]) w := by kernel_rfl
theorem ta_many (A : Option Addr) (k c : Nat) (w : World) : (Instr.typeAssert (.iface 70 (.slice A k c)) 63 70 true).run Tryd.prog w = .ok (.tuple #[.slice A k c, .bool true]) w := by kernel_rfl
theorem built_konly (k : Int) : Tryd.prog.built 29 [(3, .int .i64 k)] = some (cc (zb 16) (zb 8) (zb 8) k).toArray := by kernel_rfl
theorem wpList_build1 {ops : Array Oper} {rest : List Oper} {o : Oper} {a : Act} {w : World} {Q : Exit → Act → World → Prop} (hgd : o.guard = none) (ty : TypeId) (i0 : Nat) (x0 : Operand) (ho : o.op = .build ty #[(i0, x0)])
    (v0 : Value) (cells : Array Value) (h0 : a.eval x0 = v0) (hb : Tryd.prog.built ty [(i0, v0)] = some cells)
    (h : wpList Tryd.prog ops Q rest (a.put o.dst (.agg cells)) w) : wpList Tryd.prog ops Q (o :: rest) a w :=
  wpList_build_to hgd ty _ ho _ cells (by simp [h0]) hb h
set_option maxRecDepth 100000 in
set_option maxHeartbeats 4000000 in
theorem breadone_one (s : List UInt8) (w : World) (hs : s.length < 4294967281) (h1 : (cutB 45 s).length = 1) :
    Calls Tryd.prog 9 #[Sv s] w fun e w' => e = .returned (cxOut (oneR s)) ∧ Below w.heap.size w w' := by
  have HO := hid (show oneR s = if keepS s = 0 then cxBad 3 else (zb 16, zb 8, zb 8, keepS s, 0) by unfold oneR; rw [cutB_one h1]; rfl)
  have H1 := hid h1
  have HF := hid ((Frm.start w).new0 29 rfl)
  clear h1
  have hm := fun n => meth_one n s
  have ht := ta_one s
  generalize hk : keepS s = k at HO
  have hkeep := fun u => bkeep_any s u
  rw [hk] at hkeep
  clear hk
  go_enter Tryd.func9, Tryd.ntmps9
  go_wp2_with fail
  refine (bsplit_one s _ hs H1.out).mono ?_; rintro e w1 ⟨rfl, hb1⟩
  have HF1 := hid (HF.out.call hb1)
  clear hb1
  go_wp2_with (first
    | (go_at_call 139; refine (parts_one s _).mono ?_; rintro e w2 ⟨rfl, hw2⟩; have HF2 := hid (HF1.out.call (w' := w2) (by rw [hw2]; exact Below.refl _ _)); clear hw2)
    | (go_at_call 36; refine (hkeep _).mono ?_; rintro e w5 ⟨rfl, hw5⟩; have HF5 := hid (HF2.out.call (w' := w5) (by rw [hw5]; exact Below.refl _ _)); clear hw5)
    | (refine wpList_build1 rfl 29 3 _ rfl (.int .i64 k) _ rfl (built_konly k) ?_; change wpList _ _ _ _ (Act.put _ _ (Cv (zb 16) (zb 8) (zb 8) k)) _)
    | (refine wpList_putCv HF5.out 0 (t := zb 16) (x := zb 8) (p := zb 8) (k := 0) rfl rfl rfl okc_zero okc_zero rfl rfl ?_; intro w9 h9; have HF9 := hid h9; clear h9)
    | (refine wpList_putCv HF5.out 0 (t := zb 16) (x := zb 8) (p := zb 8) (k := k) rfl rfl rfl okc_zero okc_zero rfl rfl ?_; intro w9 h9; have HF9 := hid h9; clear h9))
  · have q2 : k = 0 := beqi_yes (by assumption)
    exact bodyPost_ret (results_cv2 rfl _ _ _ _ _ _ _ _ _ rfl (HF9.out.get 0 rfl) Tryd.underlying29 rfl info_ctx okc_zero) rfl ⟨by rw [HO.out, if_pos q2]; rfl, HF9.out.bel⟩
  · have q2 : k ≠ 0 := beqi_no (by assumption)
    exact bodyPost_ret (results_cv2 rfl _ _ _ _ _ _ _ _ _ rfl (HF9.out.get 0 rfl) Tryd.underlying29 rfl info_ctx okc_zero) rfl ⟨by rw [HO.out, if_neg q2]; rfl, HF9.out.bel⟩
theorem pieces (c : UInt8) {s : List UInt8} {n : Nat} (hs : s.length ≤ n) : ∀ q ∈ cutB c s, q.length ≤ n := fun q hq => Nat.le_trans (cutB_flat c s q hq) hs
set_option maxRecDepth 100000 in
set_option maxHeartbeats 4000000 in
theorem breadone_many (s : List UInt8) (w : World) (hs : s.length < 4294967281) (h1 : (cutB 45 s).length ≠ 1) :
    Calls Tryd.prog 9 #[Sv s] w fun e w' => e = .returned (cxOut (oneR s)) ∧ Below w.heap.size w w' := by
  have HP := hid (pieces 45 (s := s) (n := 140737488355328) (by omega))
  have HS := hid (bsplit_many s · hs h1)
  have h2 : 2 ≤ (cutB 45 s).length := by have := cutB_pos 45 s; omega
  obtain ⟨a, ha⟩ : ∃ a, (cutB 45 s)[0]? = some a := ⟨(cutB 45 s)[0], List.getElem?_eq_getElem (by omega)⟩
  obtain ⟨b, hb⟩ : ∃ b, (cutB 45 s)[1]? = some b := ⟨(cutB 45 s)[1], List.getElem?_eq_getElem (by omega)⟩
  have HR := hid (show oneR s = oneL (cutB 45 s) from rfl)
  generalize cutB 45 s = L at *
  have HF := hid ((Frm.start w).new0 29 rfl)
  by_cases h4 : 4 < L.length
  · have HO := hid (show oneL L = cxBad 3 from oneL_many h4)
    have hm := fun n A c => meth_many n A L.length c
    obtain ⟨n, hn⟩ : ∃ n, L.length = n := ⟨_, rfl⟩
    rw [hn] at HS h4 hm
    clear hn h1 h2 ha hb
    have q4 : (4 : Int) < (n : Int) := by omega
    go_enter Tryd.func9, Tryd.ntmps9
    go_wp2_with fail
    refine (HS.out _).mono ?_; rintro e w1 ⟨rfl, hw1⟩
    have HF1 := hid (HF.out.call (w' := w1) (by rw [hw1]; exact ext_alloc _ _))
    clear hw1
    go_wp2_with (first
      | (go_at_call 140; refine (parts_many _ n _ _).mono ?_; rintro e w2 ⟨rfl, hw2⟩; have HF2 := hid (HF1.out.call (w' := w2) (by rw [hw2]; exact Below.refl _ _)); clear hw2)
      | (refine wpList_putCv HF2.out 0 (t := zb 16) (x := zb 8) (p := zb 8) (k := 0) rfl rfl rfl okc_zero okc_zero rfl rfl ?_; intro w9 h9; have HF9 := hid h9; clear h9))
    exact bodyPost_ret (results_cv2 rfl _ _ _ _ _ _ _ _ _ rfl (HF9.out.get 0 rfl) Tryd.underlying29 rfl info_ctx okc_zero) rfl ⟨by rw [HR.out, HO.out]; rfl, HF9.out.bel⟩
  · have HREAD := hid (fun (g : Nat) (u : World) (q : Lie u g L) => bread_any L a b g u q ha hb (by omega) HP.out)
    have HOK := hid (lenOk_one L)
    generalize hr : oneL L = r at HR HREAD HOK
    clear hr
    obtain ⟨it, ix, ip, ik, ic⟩ := r
    have HI : Hid (Okc it ix ip) := HOK.out
    unfold cxOut at HREAD
    simp only at HREAD
    have hm := fun n A c => meth_many n A L.length c
    have htm := fun A c => ta_miss A L.length c
    have hth := fun A c => ta_many A L.length c
    obtain ⟨n, hn⟩ : ∃ n, L.length = n := ⟨_, rfl⟩
    rw [hn] at HS h4 hm HREAD htm hth
    clear hn h1 h2 ha hb HOK HP
    have q4 : (n : Int) ≤ 4 := by omega
    go_enter Tryd.func9, Tryd.ntmps9
    go_wp2_with fail
    refine (HS.out _).mono ?_; rintro e w1 ⟨rfl, hw1⟩
    have HLIE := hid (show Lie w1 (w.heap.size + 1) L by
      have := Blk.new (w.alloc (.cells #[.int .u8 0, .int .u8 0, .int .u8 0, .int .u8 0, .int .u8 0, .int .u8 0, .int .u8 0, .int .u8 0, .int .u8 0, .int .u8 0, .int .u8 0, .int .u8 0, .int .u8 0, .int .u8 0, .int .u8 0, .int .u8 0, .int .u8 0, .int .u8 0, .int .u8 0, .int .u8 0, .int .u8 0, .int .u8 0, .int .u8 0, .int .u8 0, .int .u8 0, .int .u8 0, .int .u8 0, .int .u8 0, .int .u8 0, .int .u8 0, .int .u8 0, .int .u8 0, .int .i64 0] 29)) 9 (L.map Sv).toArray
      rw [size_alloc] at this
      rw [hw1]
      exact this)
    have HF1 := hid (HF.out.call (w' := w1) (by rw [hw1]; exact ext_alloc _ _))
    clear hw1 HS
    go_wp2_with (first
      | (go_at_call 140; refine (parts_many _ n _ _).mono ?_; rintro e w2 ⟨rfl, hw2⟩; have HF2 := hid (HF1.out.call (w' := w2) (by rw [hw2]; exact Below.refl _ _)); have HL2 := hid (show Lie w2 (w.heap.size + 1) L from hw2 ▸ HLIE.out); clear hw2)
      | (go_at_call 37; refine (HREAD.out _ _ HL2.out).mono ?_; rintro e w3 ⟨rfl, hb3⟩; have HF3 := hid (HF2.out.call hb3); clear hb3)
      | (refine wpList_putCv HF3.out 0 rfl rfl rfl okc_zero HI.out rfl rfl ?_; intro w9 h9; have HF9 := hid h9; clear h9))
    exact bodyPost_ret (results_cv2 rfl _ _ _ _ _ _ _ _ _ rfl (HF9.out.get 0 rfl) Tryd.underlying29 rfl info_ctx HI.out) rfl ⟨by rw [HR.out]; rfl, HF9.out.bel⟩
theorem breadone_any (s : List UInt8) (w : World) (hs : s.length < 4294967281) :
    Calls Tryd.prog 9 #[Sv s] w fun e w' => e = .returned (cxOut (oneR s)) ∧ Below w.heap.size w w' := by
  by_cases h1 : (cutB 45 s).length = 1
  · exact breadone_one s w hs h1
  · exact breadone_many s w hs h1
end Go.Proofs.YtgfdmdikiickpaaDoor
