/-
  Walks of package ident: what was seen.
-/
import Derived.Test.YtdjbgojdkaipfaaDoorIdent
import Derived.Maps.OwnSet
import Derived.DeepKeys4
import Derived.Deep.MidRow
import Derived.StillTailTactics
namespace Go.Proofs.YtdjbgojdkaipfaaDoor
open Go.RowKit Go.Maps Go.WideShapes

theorem laidO : laidOutB Tryd.prog = true := by kernel_rfl
theorem pair_law : Keyed Tryd.prog 93 :=
  Keyed.of_law (deep_law_laid laidO (m := 3) (by decide) (of_decide_eq_true (by kernel_rfl)) (by kernel_rfl) (by kernel_rfl))
theorem zeroInt (w : World) : (zeroValue 3).run Tryd.prog w = .ok (.int .i64 0) w := by kernel_rfl
def SeenMap (w : World) (m n : Nat) (D : DataW Unit) : Prop := w.ownsMap Tryd.prog 93 (plainElem Tryd.prog 3) m n D
structure SeenAt (w : World) (s m n : Nat) (D : DataW Unit) : Prop where
  blk : Blk w s 91 #[.map (some m)]
  own : SeenMap w m n D
theorem SeenAt.ext {w w' : World} {s m n : Nat} {D : DataW Unit} (h : SeenAt w s m n D) (k : Below w.heap.size w w') : SeenAt w' s m n D :=
  ⟨Blk.below h.blk k (Blk.lt h.blk), h.own.kept (only_of_below k none) (by simp)⟩
set_option maxRecDepth 100000 in
theorem seennew_any (w : World) :
    Calls Tryd.prog 51 #[] w fun e w' => ∃ s m, e = .returned (.pointer (some ⟨s, 0, none⟩)) ∧ w.heap.size ≤ m ∧ m < s ∧ SeenAt w' s m 0 (.map []) ∧ Below w.heap.size w w' := by
  have hmm := @run_makeMap Tryd.prog
  go_enter Tryd.func51, Tryd.ntmps51
  go_wp2_with fail
  go_ret
  exact ⟨w.heap.size + 1, w.heap.size, rfl, Nat.le_refl _, by omega, ⟨by have := Blk.new (w.alloc (.map #[] 0)) 91 #[.map (some w.heap.size)]; simpa using this, (World.ownsMap_made w Tryd.prog 93 _).alloc _⟩, ext_trans (ext_alloc w _) (ext_alloc _ _)⟩
set_option maxRecDepth 100000 in
theorem seenlen_nil (w : World) :
    Calls Tryd.prog 54 #[.pointer none] w fun e w' => e = .returned (.int .i64 0) ∧ w = w' := by
  go_enter Tryd.func54, Tryd.ntmps54
  go_wp2_with fail
  go_ret
  exact ⟨rfl, rfl⟩
set_option maxRecDepth 100000 in
theorem seenlen_any (s m n : Nat) (D : DataW Unit) (w : World) (h : SeenAt w s m n D) :
    Calls Tryd.prog 54 #[.pointer (some ⟨s, 0, none⟩)] w fun e w' => e = .returned (.int .i64 (Maps.size D)) ∧ w = w' := by
  have h0 := h.blk.cell 0
  have HO := hid h.own
  clear h
  go_enter Tryd.func54, Tryd.ntmps54
  go_wp2_with (at_len; refine wpList_len_own _ rfl _ 89 rfl 93 3 Tryd.underlying89 _ m n D rfl HO.out ?_)
  go_ret
  exact ⟨rfl, rfl⟩
set_option maxRecDepth 100000 in
theorem seenfind_nil (t x : List UInt8) (w : World) :
    Calls Tryd.prog 53 #[.pointer none, Av t, Av x] w fun e w' => e = .returned (.tuple #[.int .i64 0, .bool false]) ∧ Below w.heap.size w w' := by
  unfold Av
  go_enter Tryd.func53, Tryd.ntmps53
  go_wp2_with fail
  exact bodyPost_ret (v := .tuple #[.int .i64 0, .bool false]) (by simp only [results, Tryd.results53]; go_simp) rfl ⟨rfl, ext_trans (ext_alloc w _) (ext_alloc _ _)⟩
theorem ln16 {t : List UInt8} (h : t.length = 16) : ∃ a0  a1  a2  a3  a4  a5  a6  a7  a8  a9  a10  a11  a12  a13  a14  a15, t = [a0, a1, a2, a3, a4, a5, a6, a7, a8, a9, a10, a11, a12, a13, a14, a15] := by
  match t, h with
  | [a0, a1, a2, a3, a4, a5, a6, a7, a8, a9, a10, a11, a12, a13, a14, a15], _ => exact ⟨a0, a1, a2, a3, a4, a5, a6, a7, a8, a9, a10, a11, a12, a13, a14, a15, rfl⟩
theorem ln8 {t : List UInt8} (h : t.length = 8) : ∃ b0  b1  b2  b3  b4  b5  b6  b7, t = [b0, b1, b2, b3, b4, b5, b6, b7] := by
  match t, h with
  | [b0, b1, b2, b3, b4, b5, b6, b7], _ => exact ⟨b0, b1, b2, b3, b4, b5, b6, b7, rfl⟩
set_option maxRecDepth 100000 in
theorem built_pair (t x : List UInt8) (ht : t.length = 16) (hx : x.length = 8) : Tryd.prog.built 93 [(0, Av t), (1, Av x)] = some (b8s (t ++ x)).toArray := by
  obtain ⟨a0, a1, a2, a3, a4, a5, a6, a7, a8, a9, a10, a11, a12, a13, a14, a15, rfl⟩ := ln16 ht
  obtain ⟨b0, b1, b2, b3, b4, b5, b6, b7, rfl⟩ := ln8 hx
  kernel_rfl
theorem info_pair : (Tryd.prog.info? 93).map (·.size) = some 24 := by kernel_rfl
theorem wpList_build2 {ops : Array Oper} {rest : List Oper} {o : Oper} {a : Act} {w : World} {Q : Exit → Act → World → Prop} (hgd : o.guard = none) (ty : TypeId) (i0 i1 : Nat) (x0 x1 : Operand) (ho : o.op = .build ty #[(i0, x0), (i1, x1)])
    (v0 v1 : Value) (cells : Array Value) (h0 : a.eval x0 = v0) (h1 : a.eval x1 = v1) (hb : Tryd.prog.built ty [(i0, v0), (i1, v1)] = some cells)
    (h : wpList Tryd.prog ops Q rest (a.put o.dst (.agg cells)) w) : wpList Tryd.prog ops Q (o :: rest) a w := by
  have hv : ((#[(i0, x0), (i1, x1)] : Array (Nat × Operand)).map fun (i, x) => (i, a.eval x)).toList = [(i0, v0), (i1, v1)] := by simp [h0, h1]
  refine wpList_build hgd ty _ ho (by rw [hv, hb]; rfl) ?_
  rw [hv, hb]; exact h
theorem run_load_pair {w : World} {g : Nat} {T : TypeId} {l : List UInt8} (hb : Blk w g T (b8s l).toArray) (hl : l.length = 24) :
    (Instr.loadAt 93 (.pointer (some ⟨g, 0, none⟩))).run Tryd.prog w = .ok (Av l) w :=
  run_loadAt_mid w g 0 93 (b8s l) _ (fun j u hu => by rw [Nat.zero_add, hb.cell j, ← hu]; simp) Tryd.underlying93 rfl (by rw [info_pair]; simp [hl])
theorem wpStill_load {P : Program} {ops : Array Oper} {w : World} {Q : Act → Prop} {a : Act} {o : Oper} {rest : List Oper} (hg : o.guard = none) (ty : TypeId) (x : Operand) (ho : o.op = .load ty x) (v : Value)
    (h : (Instr.loadAt ty (a.eval x)).run P w = .ok v w) (hn : wpStill P ops w Q rest (a.put o.dst v)) : wpStill P ops w Q (o :: rest) a := by
  refine wpStill_step (fun K hK => ?_)
  rw [if_pos (by simp [Region.wanted, hg])]
  have e : (execOp a.eval o).run P w = .ok (.value v) w := by simp [execOp, ho, h, Result.andThen]
  unfold Oper.still
  rw [e]
  exact ⟨rfl, hK _ hn⟩
theorem still_tl {P : Program} {id : Nat} {Q : Exit → Act → World → Prop} {a : Act} {w : World} {l : List Oper} (n : Nat) (hm : P.follows .mixedOrders = true) (hB : Region.lexTailB .any l.toArray n = true)
    (h : ∀ w', w.drew = w' → wpStill P l.toArray w' (fun a' => wpList P l.toArray Q (l.drop n) a' w') (l.take n) a) : (Code.region id l.toArray true).wp P Q a w :=
  wp_region_still_tail n hm hB (h _ rfl)
theorem still_al {P : Program} {id : Nat} {Q : Exit → Act → World → Prop} {a : Act} {w : World} {l : List Oper} (hm : P.follows .mixedOrders = true) (hB : Region.lexB .any l.toArray = true)
    (h : ∀ w', w.drew = w' → wpStill P l.toArray w' (fun a' => Q .normal a' w') l a) : (Code.region id l.toArray true).wp P Q a w :=
  wp_region_still_lit hm hB (h _ rfl)
set_option maxRecDepth 100000 in
set_option maxHeartbeats 4000000 in
theorem add_new (t x : List UInt8) (ht : t.length = 16) (hx : x.length = 8) (s m n : Nat) (D : DataW Unit) (kl : Lit) (w : World) (h : SeenAt w s m n D) (hn : n < 1000000) (hD : Maps.size D ≤ 1000000) (hsm : m < s) (hkey : keyOf Tryd.prog 93 (Av (t ++ x)) = some kl) (hhas : Maps.has D kl = false) :
    Calls Tryd.prog 52 #[.pointer (some ⟨s, 0, none⟩), Av t, Av x] w fun e w' => e = .returned (.tuple #[.int .i64 (Maps.size D), .bool true]) ∧ SeenAt w' s m (n + 1) (D.put kl (.lit (.int .i64 (Maps.size D)))) ∧ w.grownBy w' (some m) := by
  have hsl := Blk.lt h.blk
  obtain ⟨hA, hB, _, _, hbw⟩ := box2 (Below.refl ((w.alloc (.cells (b8s t).toArray 44)).alloc (.cells (b8s x).toArray 46)).heap.size _)
  have HA := hid hA
  have HB := hid hB
  have HBW := hid hbw
  have H1 := hid (h.ext hbw)
  have hP0 : Blk (((w.alloc (.cells (b8s t).toArray 44)).alloc (.cells (b8s x).toArray 46)).alloc (.cells #[.int .u8 0, .int .u8 0, .int .u8 0, .int .u8 0, .int .u8 0, .int .u8 0, .int .u8 0, .int .u8 0, .int .u8 0, .int .u8 0, .int .u8 0, .int .u8 0, .int .u8 0, .int .u8 0, .int .u8 0, .int .u8 0, .int .u8 0, .int .u8 0, .int .u8 0, .int .u8 0, .int .u8 0, .int .u8 0, .int .u8 0, .int .u8 0] 93)) (w.heap.size + 1 + 1) 93 (b8s (zb 24)).toArray := by
    have e : w.heap.size + 1 + 1 = ((w.alloc (.cells (b8s t).toArray 44)).alloc (.cells (b8s x).toArray 46)).heap.size := by simp
    rw [e]
    exact Blk.new _ _ _
  have hb3 : Below w.heap.size w (((w.alloc (.cells (b8s t).toArray 44)).alloc (.cells (b8s x).toArray 46)).alloc (.cells #[.int .u8 0, .int .u8 0, .int .u8 0, .int .u8 0, .int .u8 0, .int .u8 0, .int .u8 0, .int .u8 0, .int .u8 0, .int .u8 0, .int .u8 0, .int .u8 0, .int .u8 0, .int .u8 0, .int .u8 0, .int .u8 0, .int .u8 0, .int .u8 0, .int .u8 0, .int .u8 0, .int .u8 0, .int .u8 0, .int .u8 0, .int .u8 0] 93)) := ext_trans (ext_alloc w _) (ext_trans (ext_alloc _ _) (ext_alloc _ _))
  have HP0 := hid hP0
  have HB3 := hid hb3
  have HS := hid h
  have HLP := hid (show (t ++ x).length = 24 by rw [List.length_append, ht, hx])
  have HK := hid hkey
  have HH := hid hhas
  clear hA hB hbw h hkey hhas hP0 hb3
  go_enter Tryd.func52, Tryd.ntmps52
  go_wp2_with (first
    | (refine wpList_load_av rfl 44 (.tmp 4) rfl w.heap.size 16 t 44 rfl HA.out Tryd.underlying44 info_trace ht ?_)
    | (refine wpList_load_av rfl 46 (.tmp 5) rfl (w.heap.size + 1) 8 x 46 rfl HB.out Tryd.underlying46 info_span hx ?_)
    | (refine wpList_build2 rfl 93 0 1 (.tmp 14) (.tmp 15) rfl (Av t) (Av x) _ rfl rfl (built_pair t x ht hx) ?_; change wpList _ _ _ _ (Act.put _ _ (Av (t ++ x))) _)
    | (refine wpList_store_av rfl 93 (.tmp 8) (.tmp 16) rfl (w.heap.size + 1 + 1) 24 (t ++ x) (zb 24) 93 rfl rfl HP0.out info_pair HLP.out (zb_length 24) ?_; intro w4 hw4 hP4; have HP4 := hid hP4; have HW4 := hid (show Below w.heap.size w w4 by rw [hw4]; exact setRow_below HB3.out (by omega) _); clear hw4 hP4))
  have H4 := hid (HS.out.ext HW4.out)
  have hc4 := H4.out.blk.cell 0
  have hsz4 : w.heap.size ≤ w4.heap.size := HW4.out.size
  clear HA HB HBW H1 HP0 HB3 HS
  refine still_al (by kernel_rfl) (by kernel_rfl) ?_
  intro w5 hw5
  have HP5 := hid (hw5 ▸ HP4.out.drew)
  have H5 := hid (hw5 ▸ H4.out.ext (ext_drew _))
  have HW5 := hid (hw5 ▸ HW4.out.trans ((ext_drew w4).mono HW4.out.size))
  clear hw5 HP4 H4 HW4 hc4 hsz4
  have hc5 := H5.out.blk.cell 0
  have hload := hid (run_load_pair HP5.out HLP.out)
  obtain ⟨v5, ps5, hlook, hv5⟩ := World.ownsMap.look_ok H5.out.own pair_law Tryd.underlying89 (zeroInt w5) (plainElem_int (H := Unit) Tryd.underlying3 (a := 0) (by decide)) HK.out
  rw [HH.out] at hlook
  repeat (first | (refine wpStill_load rfl 93 (.tmp 8) rfl (Av (t ++ x)) hload.out ?_) | still_step)
  refine wpStill_nil ?_
  go_wp2_with (at_len; refine wpList_len_own _ rfl _ 89 rfl 93 3 Tryd.underlying89 _ m n D rfl H5.out.own ?_)
  refine still_tl 6 (by kernel_rfl) (by kernel_rfl) ?_
  intro w6 hw6
  have HP6 := hid (hw6 ▸ HP5.out.drew)
  have H6 := hid (hw6 ▸ H5.out.ext (ext_drew _))
  have HW6 := hid (hw6 ▸ HW5.out.trans ((ext_drew w5).mono HW5.out.size))
  clear hw6 HP5 H5 HW5 hc5 hlook hv5 hload
  have hc6 := H6.out.blk.cell 0
  have hload := hid (run_load_pair HP6.out HLP.out)
  simp only [List.take_succ_cons, List.take_zero, List.drop_succ_cons, List.drop_zero]
  repeat (first | (refine wpStill_load rfl 93 (.tmp 8) rfl (Av (t ++ x)) hload.out ?_) | still_step)
  refine wpStill_nil ?_
  have hWF : (Lit.int .i64 (Maps.size D : Int)).wf = true := by simp [Lit.wf, IntKind.min, IntKind.max, IntKind.signed, IntKind.bits]; omega
  go_wp2_with (at_mapUpdate; refine wpList_mapUpdate_own _ rfl _ _ _ 89 rfl 93 3 pair_law Tryd.underlying89 _ m n D rfl H6.out.own (by unfold maxLen; omega) _ _ kl rfl rfl HK.out _ [] (plainElem_int Tryd.underlying3 hWF) ?_; intro w7 hown7 hg7)
  go_ret2
  exact ⟨rfl, ⟨Blk.grown H6.out.blk hg7 (by intro e; injection e with e; omega), hown7⟩, only_trans (only_of_below HW6.out _) hg7⟩
set_option maxRecDepth 100000 in
set_option maxHeartbeats 4000000 in
theorem add_old (t x : List UInt8) (ht : t.length = 16) (hx : x.length = 8) (s m n : Nat) (D : DataW Unit) (kl : Lit) (w : World) (h : SeenAt w s m n D) (hkey : keyOf Tryd.prog 93 (Av (t ++ x)) = some kl) (c : Int) (hhas : Maps.has D kl = true) (hat : D.atKey kl (.lit (.int .i64 0)) = .lit (.int .i64 c)) :
    Calls Tryd.prog 52 #[.pointer (some ⟨s, 0, none⟩), Av t, Av x] w fun e w' => e = .returned (.tuple #[.int .i64 c, .bool false]) ∧ SeenAt w' s m n D ∧ Below w.heap.size w w' := by
  have hsl := Blk.lt h.blk
  obtain ⟨hA, hB, _, _, hbw⟩ := box2 (Below.refl ((w.alloc (.cells (b8s t).toArray 44)).alloc (.cells (b8s x).toArray 46)).heap.size _)
  have HA := hid hA
  have HB := hid hB
  have HBW := hid hbw
  have H1 := hid (h.ext hbw)
  have hP0 : Blk (((w.alloc (.cells (b8s t).toArray 44)).alloc (.cells (b8s x).toArray 46)).alloc (.cells #[.int .u8 0, .int .u8 0, .int .u8 0, .int .u8 0, .int .u8 0, .int .u8 0, .int .u8 0, .int .u8 0, .int .u8 0, .int .u8 0, .int .u8 0, .int .u8 0, .int .u8 0, .int .u8 0, .int .u8 0, .int .u8 0, .int .u8 0, .int .u8 0, .int .u8 0, .int .u8 0, .int .u8 0, .int .u8 0, .int .u8 0, .int .u8 0] 93)) (w.heap.size + 1 + 1) 93 (b8s (zb 24)).toArray := by
    have e : w.heap.size + 1 + 1 = ((w.alloc (.cells (b8s t).toArray 44)).alloc (.cells (b8s x).toArray 46)).heap.size := by simp
    rw [e]
    exact Blk.new _ _ _
  have hb3 : Below w.heap.size w (((w.alloc (.cells (b8s t).toArray 44)).alloc (.cells (b8s x).toArray 46)).alloc (.cells #[.int .u8 0, .int .u8 0, .int .u8 0, .int .u8 0, .int .u8 0, .int .u8 0, .int .u8 0, .int .u8 0, .int .u8 0, .int .u8 0, .int .u8 0, .int .u8 0, .int .u8 0, .int .u8 0, .int .u8 0, .int .u8 0, .int .u8 0, .int .u8 0, .int .u8 0, .int .u8 0, .int .u8 0, .int .u8 0, .int .u8 0, .int .u8 0] 93)) := ext_trans (ext_alloc w _) (ext_trans (ext_alloc _ _) (ext_alloc _ _))
  have HP0 := hid hP0
  have HB3 := hid hb3
  have HS := hid h
  have HLP := hid (show (t ++ x).length = 24 by rw [List.length_append, ht, hx])
  have HK := hid hkey
  have HH := hid hhas
  clear hA hB hbw h hkey hhas hP0 hb3
  go_enter Tryd.func52, Tryd.ntmps52
  go_wp2_with (first
    | (refine wpList_load_av rfl 44 (.tmp 4) rfl w.heap.size 16 t 44 rfl HA.out Tryd.underlying44 info_trace ht ?_)
    | (refine wpList_load_av rfl 46 (.tmp 5) rfl (w.heap.size + 1) 8 x 46 rfl HB.out Tryd.underlying46 info_span hx ?_)
    | (refine wpList_build2 rfl 93 0 1 (.tmp 14) (.tmp 15) rfl (Av t) (Av x) _ rfl rfl (built_pair t x ht hx) ?_; change wpList _ _ _ _ (Act.put _ _ (Av (t ++ x))) _)
    | (refine wpList_store_av rfl 93 (.tmp 8) (.tmp 16) rfl (w.heap.size + 1 + 1) 24 (t ++ x) (zb 24) 93 rfl rfl HP0.out info_pair HLP.out (zb_length 24) ?_; intro w4 hw4 hP4; have HP4 := hid hP4; have HW4 := hid (show Below w.heap.size w w4 by rw [hw4]; exact setRow_below HB3.out (by omega) _); clear hw4 hP4))
  have H4 := hid (HS.out.ext HW4.out)
  have hc4 := H4.out.blk.cell 0
  have hsz4 : w.heap.size ≤ w4.heap.size := HW4.out.size
  clear HA HB HBW H1 HP0 HB3 HS
  refine still_al (by kernel_rfl) (by kernel_rfl) ?_
  intro w5 hw5
  have HP5 := hid (hw5 ▸ HP4.out.drew)
  have H5 := hid (hw5 ▸ H4.out.ext (ext_drew _))
  have HW5 := hid (hw5 ▸ HW4.out.trans ((ext_drew w4).mono HW4.out.size))
  clear hw5 HP4 H4 HW4 hc4 hsz4
  have hc5 := H5.out.blk.cell 0
  have hload := hid (run_load_pair HP5.out HLP.out)
  obtain ⟨v5, ps5, hlook, hv5⟩ := World.ownsMap.look_ok H5.out.own pair_law Tryd.underlying89 (zeroInt w5) (plainElem_int (H := Unit) Tryd.underlying3 (a := 0) (by decide)) HK.out
  rw [HH.out] at hlook
  obtain ⟨c5, rfl, hc5z, _⟩ := plainElem_int_inv Tryd.underlying3 hv5
  simp only [Prod.mk.injEq] at hc5z
  have hcc : c5 = c := by have := hc5z.1.symm.trans hat; simpa using this
  subst hcc
  clear hv5 hc5z
  repeat (first | (refine wpStill_load rfl 93 (.tmp 8) rfl (Av (t ++ x)) hload.out ?_) | still_step)
  refine wpStill_nil ?_
  go_wp2_with fail
  go_ret2
  exact ⟨rfl, H5.out, HW5.out⟩
end Go.Proofs.YtdjbgojdkaipfaaDoor
