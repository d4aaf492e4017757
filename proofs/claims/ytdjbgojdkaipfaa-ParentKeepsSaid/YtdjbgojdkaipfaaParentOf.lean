/-
  Walks of package parent and of its reference: a context's header, a header's context.
-/
import Derived.Test.YtdjbgojdkaipfaaHdr
import Derived.Test.YtdjbgojdkaipfaaIdent
import Derived.Test.YtdjbgojdkaipfaaBits
import Derived.Test.YtdjbgojdkaipfaaParentRead
namespace Go.Proofs.Ytdjbgojdkaipfaa
open Go.RowKit

theorem Blk.hcT {w : World} {g : Nat} {T : TypeId} {v f : Int} {t s : List UInt8} (h : Blk w g T (hc v t s f).toArray) : Blk w g T ([Value.int .u8 v] ++ (b8s t ++ (b8s s ++ [Value.int .u8 f]))).toArray := by rw [← hc_trace]; exact h
theorem Blk.hcX {w : World} {g : Nat} {T : TypeId} {v f : Int} {t s : List UInt8} (h : Blk w g T (hc v t s f).toArray) : Blk w g T (([Value.int .u8 v] ++ b8s t) ++ (b8s s ++ [Value.int .u8 f])).toArray := by rw [← hc_span]; exact h
theorem Blk.ccT {w : World} {g : Nat} {T : TypeId} {k : Int} {t s p : List UInt8} (h : Blk w g T (cc t s p k).toArray) : Blk w g T ([] ++ (b8s t ++ (b8s s ++ b8s p ++ [Value.int .i64 k]))).toArray := by rw [← cc_trace]; exact h
theorem Blk.ccX {w : World} {g : Nat} {T : TypeId} {k : Int} {t s p : List UInt8} (h : Blk w g T (cc t s p k).toArray) : Blk w g T (b8s t ++ (b8s s ++ (b8s p ++ [Value.int .i64 k]))).toArray := by rw [← cc_span]; exact h
theorem Blk.ccP {w : World} {g : Nat} {T : TypeId} {k : Int} {t s p : List UInt8} (h : Blk w g T (cc t s p k).toArray) : Blk w g T ((b8s t ++ b8s s) ++ (b8s p ++ [Value.int .i64 k])).toArray := by rw [← cc_parent]; exact h
theorem below_cellAt {B : Nat} {a w : World} (h : Below B a w) {g : Nat} (hg : B ≤ g) (o : Nat) (v : Value) : Below B a (w.setCell ⟨g, o, none⟩ v) := by
  have hg' : B ≤ (⟨g, o, none⟩ : Addr).block := hg
  with_reducible exact Below.setCell h hg' v
theorem Blk.setF {w : World} {g : Nat} {T : TypeId} {v f : Int} {t s : List UInt8} (h : Blk w g T (hc v t s f).toArray) (ht : t.length = 16) (hs : s.length = 8) (k : Int) : Blk (w.setCell ⟨g, 25, none⟩ (.int .u8 k)) g T (hc v t s k).toArray := by
  have := h.set_ 25 (.int .u8 k)
  rwa [hc_flags ht hs] at this
theorem Blk.setK {w : World} {g : Nat} {T : TypeId} {k : Int} {t s p : List UInt8} (h : Blk w g T (cc t s p k).toArray) (ht : t.length = 16) (hs : s.length = 8) (hp : p.length = 8) (m : Int) : Blk (w.setCell ⟨g, 32, none⟩ (.int .i64 m)) g T (cc t s p m).toArray := by
  have := h.set_ 32 (.int .i64 m)
  rwa [cc_keep ht hs hp] at this
def keepF (k : Int) : Int := if k = 2 ∨ k = 3 then 1 else 0

set_option maxRecDepth 100000 in
set_option maxHeartbeats 1000000 in
theorem pof_any (t x p : List UInt8) (k : Int) (w : World) (ht : t.length = 16) (hx : x.length = 8) (hp : p.length = 8) :
    Calls Try.prog 48 #[Cv t x p k] w fun e w' => e = .returned (Hv 0 t x (keepF k)) ∧ Below w.heap.size w w' := by
  have HT := hid ht
  have HX := hid hx
  have HP := hid hp
  obtain ⟨hA, hR, hN, _, _, _, hbw⟩ := box3 (Below.refl (((w.alloc (.cells (cc t x p k).toArray 69)).alloc (.cells #[.int .u8 0, .int .u8 0, .int .u8 0, .int .u8 0, .int .u8 0, .int .u8 0, .int .u8 0, .int .u8 0, .int .u8 0, .int .u8 0, .int .u8 0, .int .u8 0, .int .u8 0, .int .u8 0, .int .u8 0, .int .u8 0, .int .u8 0, .int .u8 0, .int .u8 0, .int .u8 0, .int .u8 0, .int .u8 0, .int .u8 0, .int .u8 0, .int .u8 0, .int .u8 0] 58)).alloc (.cells #[.int .u8 0, .int .u8 0, .int .u8 0, .int .u8 0, .int .u8 0, .int .u8 0, .int .u8 0, .int .u8 0, .int .u8 0, .int .u8 0, .int .u8 0, .int .u8 0, .int .u8 0, .int .u8 0, .int .u8 0, .int .u8 0, .int .u8 0, .int .u8 0, .int .u8 0, .int .u8 0, .int .u8 0, .int .u8 0, .int .u8 0, .int .u8 0, .int .u8 0, .int .u8 0] 58)).heap.size _)
  obtain ⟨hA2, _, _, _, _⟩ := box2 (Below.refl ((w.alloc (.cells (cc t x p k).toArray 69)).alloc (.cells #[.int .u8 0, .int .u8 0, .int .u8 0, .int .u8 0, .int .u8 0, .int .u8 0, .int .u8 0, .int .u8 0, .int .u8 0, .int .u8 0, .int .u8 0, .int .u8 0, .int .u8 0, .int .u8 0, .int .u8 0, .int .u8 0, .int .u8 0, .int .u8 0, .int .u8 0, .int .u8 0, .int .u8 0, .int .u8 0, .int .u8 0, .int .u8 0, .int .u8 0, .int .u8 0] 58)).heap.size _)
  have HA1 := hid hA2.ccT
  have HA2 := hid hA2.ccX
  have HA := hid hA
  have HR : Hid (Blk _ (w.heap.size + 1) 58 (hc 0 (zb 16) (zb 8) 0).toArray) := hR
  have HN : Hid (Blk _ (w.heap.size + 1 + 1) 58 (hc 0 (zb 16) (zb 8) 0).toArray) := hN
  have HBW := hid hbw
  have HL16 := hid (show (b8s t).length = 16 by simp [ht])
  have HC := hid (cc_cells (k := k) ht hx hp)
  clear hA hA2 hR hN hbw ht hx hp
  have HF1 := hid (show (k = 2 ∨ k = 3) → keepF k = 1 from fun h => if_pos h)
  have HF0 := hid (show ¬ (k = 2 ∨ k = 3) → keepF k = 0 from fun h => if_neg h)
  by_cases h2 : k = 2
  · have q2 : (k == 2) = true := by simpa using h2
    have HF := hid (HF1.out (.inl h2))
    clear h2 HF1 HF0
    go_enter Try.func48, Try.ntmps48
    go_wp2_with (first
      | (refine wpList_load_seg rfl 39 (.tmp 4) rfl w.heap.size 0 16 _ [] _ t rfl HA1.out rfl Try.underlying39 info_trace HT.out ?_)
      | (refine wpList_load_seg rfl 41 (.tmp 6) rfl w.heap.size 16 8 _ (b8s t) _ x rfl HA2.out HL16.out Try.underlying41 info_span HX.out ?_)
      | (refine wpList_build2 rfl 58 1 2 (.tmp 5) (.tmp 7) rfl (Av t) (Av x) _ rfl rfl (built_names t x HT.out HX.out) ?_; change wpList _ _ _ _ (Act.put _ _ (Hv 0 t x 0)) _)
      | (refine wpList_store_hv rfl 58 (.tmp 3) (.tmp 8) rfl (w.heap.size + 1 + 1) _ 0 0 0 0 t x (zb 16) (zb 8) rfl rfl HN.out info_hdr HT.out HX.out (zb_length _) (zb_length _) ?_; intro w3 hw3 hN3
         have HN3 := hid hN3
         have HA3 : Hid (Blk w3 w.heap.size 69 (cc t x p k).toArray) := by rw [hw3]; exact setRow_far HA.out (by omega)
         have HR3 : Hid (Blk w3 (w.heap.size + 1) 58 (hc 0 (zb 16) (zb 8) 0).toArray) := by rw [hw3]; exact setRow_far HR.out (by omega)
         have HBW3 : Hid (Below w.heap.size w w3) := by rw [hw3]; exact setRow_below HBW.out (by omega) _
         have c32 : w3.cell? ⟨w.heap.size, 32, none⟩ = some (.int .i64 k) := (HA3.out.cell 32).trans HC.out
         have f25 : w3.frozen? ⟨w.heap.size + 1 + 1, 25, none⟩ = false := HN3.out.frozen 25
         have d25 : w3.cell? ⟨w.heap.size + 1 + 1, 25, none⟩ = some (.int .u8 0) := (HN3.out.cell 25).trans (hc_cells HT.out HX.out).2
         have HN4 : Hid (Blk (w3.setCell ⟨w.heap.size + 1 + 1, 25, none⟩ (.int .u8 1)) (w.heap.size + 1 + 1) 58 (hc 0 t x 1).toArray) := HN3.out.setF HT.out HX.out 1
         have HR4 : Hid (Blk (w3.setCell ⟨w.heap.size + 1 + 1, 25, none⟩ (.int .u8 1)) (w.heap.size + 1) 58 (hc 0 (zb 16) (zb 8) 0).toArray) := HR3.out.far (show w.heap.size + 1 ≠ w.heap.size + 1 + 1 by omega) _
         have HBW4 : Hid (Below w.heap.size w (w3.setCell ⟨w.heap.size + 1 + 1, 25, none⟩ (.int .u8 1))) := below_cellAt HBW3.out (show w.heap.size ≤ w.heap.size + 1 + 1 by omega) _ _
         clear hw3 hN3)
      | (refine wpList_load_hv rfl 58 (.tmp 3) rfl (w.heap.size + 1 + 1) _ _ 0 1 t x rfl HN4.out Try.underlying58 rfl info_hdr HT.out HX.out ?_)
      | (refine wpList_store_hv rfl 58 (.tmp 2) (.tmp 18) rfl (w.heap.size + 1) _ 0 1 0 0 t x (zb 16) (zb 8) rfl rfl HR4.out info_hdr HT.out HX.out (zb_length _) (zb_length _) ?_; intro w5 hw5 hR5; have HR5 := hid hR5; have HW5 := hid hw5; clear hw5 hR5))
    exact bodyPost_ret (results_hv1 rfl _ _ _ _ _ 0 1 t x rfl HR5.out Try.underlying58 rfl info_hdr HT.out HX.out) rfl ⟨by rw [HF.out], by rw [HW5.out]; exact setRow_below HBW4.out (Nat.le_succ _) _⟩
  by_cases h3 : k = 3
  · have q2 : (k == 2) = false := by simpa using h2
    have q3 : (k == 3) = true := by simpa using h3
    have HF := hid (HF1.out (.inr h3))
    clear h2 h3 HF1 HF0
    go_enter Try.func48, Try.ntmps48
    go_wp2_with (first
      | (refine wpList_load_seg rfl 39 (.tmp 4) rfl w.heap.size 0 16 _ [] _ t rfl HA1.out rfl Try.underlying39 info_trace HT.out ?_)
      | (refine wpList_load_seg rfl 41 (.tmp 6) rfl w.heap.size 16 8 _ (b8s t) _ x rfl HA2.out HL16.out Try.underlying41 info_span HX.out ?_)
      | (refine wpList_build2 rfl 58 1 2 (.tmp 5) (.tmp 7) rfl (Av t) (Av x) _ rfl rfl (built_names t x HT.out HX.out) ?_; change wpList _ _ _ _ (Act.put _ _ (Hv 0 t x 0)) _)
      | (refine wpList_store_hv rfl 58 (.tmp 3) (.tmp 8) rfl (w.heap.size + 1 + 1) _ 0 0 0 0 t x (zb 16) (zb 8) rfl rfl HN.out info_hdr HT.out HX.out (zb_length _) (zb_length _) ?_; intro w3 hw3 hN3
         have HN3 := hid hN3
         have HA3 : Hid (Blk w3 w.heap.size 69 (cc t x p k).toArray) := by rw [hw3]; exact setRow_far HA.out (by omega)
         have HR3 : Hid (Blk w3 (w.heap.size + 1) 58 (hc 0 (zb 16) (zb 8) 0).toArray) := by rw [hw3]; exact setRow_far HR.out (by omega)
         have HBW3 : Hid (Below w.heap.size w w3) := by rw [hw3]; exact setRow_below HBW.out (by omega) _
         have c32 : w3.cell? ⟨w.heap.size, 32, none⟩ = some (.int .i64 k) := (HA3.out.cell 32).trans HC.out
         have f25 : w3.frozen? ⟨w.heap.size + 1 + 1, 25, none⟩ = false := HN3.out.frozen 25
         have d25 : w3.cell? ⟨w.heap.size + 1 + 1, 25, none⟩ = some (.int .u8 0) := (HN3.out.cell 25).trans (hc_cells HT.out HX.out).2
         have HN4 : Hid (Blk (w3.setCell ⟨w.heap.size + 1 + 1, 25, none⟩ (.int .u8 1)) (w.heap.size + 1 + 1) 58 (hc 0 t x 1).toArray) := HN3.out.setF HT.out HX.out 1
         have HR4 : Hid (Blk (w3.setCell ⟨w.heap.size + 1 + 1, 25, none⟩ (.int .u8 1)) (w.heap.size + 1) 58 (hc 0 (zb 16) (zb 8) 0).toArray) := HR3.out.far (show w.heap.size + 1 ≠ w.heap.size + 1 + 1 by omega) _
         have HBW4 : Hid (Below w.heap.size w (w3.setCell ⟨w.heap.size + 1 + 1, 25, none⟩ (.int .u8 1))) := below_cellAt HBW3.out (show w.heap.size ≤ w.heap.size + 1 + 1 by omega) _ _
         clear hw3 hN3)
      | (refine wpList_load_hv rfl 58 (.tmp 3) rfl (w.heap.size + 1 + 1) _ _ 0 1 t x rfl HN4.out Try.underlying58 rfl info_hdr HT.out HX.out ?_)
      | (refine wpList_store_hv rfl 58 (.tmp 2) (.tmp 18) rfl (w.heap.size + 1) _ 0 1 0 0 t x (zb 16) (zb 8) rfl rfl HR4.out info_hdr HT.out HX.out (zb_length _) (zb_length _) ?_; intro w5 hw5 hR5; have HR5 := hid hR5; have HW5 := hid hw5; clear hw5 hR5))
    exact bodyPost_ret (results_hv1 rfl _ _ _ _ _ 0 1 t x rfl HR5.out Try.underlying58 rfl info_hdr HT.out HX.out) rfl ⟨by rw [HF.out], by rw [HW5.out]; exact setRow_below HBW4.out (Nat.le_succ _) _⟩
  · have q2 : (k == 2) = false := by simpa using h2
    have q3 : (k == 3) = false := by simpa using h3
    have HF := hid (HF0.out (by omega))
    clear h2 h3 HF1 HF0
    go_enter Try.func48, Try.ntmps48
    go_wp2_with (first
      | (refine wpList_load_seg rfl 39 (.tmp 4) rfl w.heap.size 0 16 _ [] _ t rfl HA1.out rfl Try.underlying39 info_trace HT.out ?_)
      | (refine wpList_load_seg rfl 41 (.tmp 6) rfl w.heap.size 16 8 _ (b8s t) _ x rfl HA2.out HL16.out Try.underlying41 info_span HX.out ?_)
      | (refine wpList_build2 rfl 58 1 2 (.tmp 5) (.tmp 7) rfl (Av t) (Av x) _ rfl rfl (built_names t x HT.out HX.out) ?_; change wpList _ _ _ _ (Act.put _ _ (Hv 0 t x 0)) _)
      | (refine wpList_store_hv rfl 58 (.tmp 3) (.tmp 8) rfl (w.heap.size + 1 + 1) _ 0 0 0 0 t x (zb 16) (zb 8) rfl rfl HN.out info_hdr HT.out HX.out (zb_length _) (zb_length _) ?_; intro w3 hw3 hN3
         have HN3 := hid hN3
         have HA3 : Hid (Blk w3 w.heap.size 69 (cc t x p k).toArray) := by rw [hw3]; exact setRow_far HA.out (by omega)
         have HR3 : Hid (Blk w3 (w.heap.size + 1) 58 (hc 0 (zb 16) (zb 8) 0).toArray) := by rw [hw3]; exact setRow_far HR.out (by omega)
         have HBW3 : Hid (Below w.heap.size w w3) := by rw [hw3]; exact setRow_below HBW.out (by omega) _
         have c32 : w3.cell? ⟨w.heap.size, 32, none⟩ = some (.int .i64 k) := (HA3.out.cell 32).trans HC.out
         have HN4 := HN3
         have HR4 := HR3
         have HBW4 := HBW3
         clear hw3 hN3)
      | (refine wpList_load_hv rfl 58 (.tmp 3) rfl (w.heap.size + 1 + 1) _ _ 0 0 t x rfl HN4.out Try.underlying58 rfl info_hdr HT.out HX.out ?_)
      | (refine wpList_store_hv rfl 58 (.tmp 2) (.tmp 18) rfl (w.heap.size + 1) _ 0 0 0 0 t x (zb 16) (zb 8) rfl rfl HR4.out info_hdr HT.out HX.out (zb_length _) (zb_length _) ?_; intro w5 hw5 hR5; have HR5 := hid hR5; have HW5 := hid hw5; clear hw5 hR5))
    exact bodyPost_ret (results_hv1 rfl _ _ _ _ _ 0 0 t x rfl HR5.out Try.underlying58 rfl info_hdr HT.out HX.out) rfl ⟨by rw [HF.out], by rw [HW5.out]; exact setRow_below HBW4.out (Nat.le_succ _) _⟩

set_option maxRecDepth 100000 in
set_option maxHeartbeats 1000000 in
theorem rof_any (t x p : List UInt8) (k : Int) (w : World) (ht : t.length = 16) (hx : x.length = 8) (hp : p.length = 8) :
    Calls Try.prog 49 #[Cv t x p k] w fun e w' => e = .returned (Hv 0 t x (keepF k)) ∧ Below w.heap.size w w' := by
  have HT := hid ht
  have HX := hid hx
  have HP := hid hp
  obtain ⟨hA, hR, hN, _, _, _, hbw⟩ := box3 (Below.refl (((w.alloc (.cells (cc t x p k).toArray 69)).alloc (.cells #[.int .u8 0, .int .u8 0, .int .u8 0, .int .u8 0, .int .u8 0, .int .u8 0, .int .u8 0, .int .u8 0, .int .u8 0, .int .u8 0, .int .u8 0, .int .u8 0, .int .u8 0, .int .u8 0, .int .u8 0, .int .u8 0, .int .u8 0, .int .u8 0, .int .u8 0, .int .u8 0, .int .u8 0, .int .u8 0, .int .u8 0, .int .u8 0, .int .u8 0, .int .u8 0] 61)).alloc (.cells #[.int .u8 0, .int .u8 0, .int .u8 0, .int .u8 0, .int .u8 0, .int .u8 0, .int .u8 0, .int .u8 0, .int .u8 0, .int .u8 0, .int .u8 0, .int .u8 0, .int .u8 0, .int .u8 0, .int .u8 0, .int .u8 0, .int .u8 0, .int .u8 0, .int .u8 0, .int .u8 0, .int .u8 0, .int .u8 0, .int .u8 0, .int .u8 0, .int .u8 0, .int .u8 0] 61)).heap.size _)
  obtain ⟨hA2, _, _, _, _⟩ := box2 (Below.refl ((w.alloc (.cells (cc t x p k).toArray 69)).alloc (.cells #[.int .u8 0, .int .u8 0, .int .u8 0, .int .u8 0, .int .u8 0, .int .u8 0, .int .u8 0, .int .u8 0, .int .u8 0, .int .u8 0, .int .u8 0, .int .u8 0, .int .u8 0, .int .u8 0, .int .u8 0, .int .u8 0, .int .u8 0, .int .u8 0, .int .u8 0, .int .u8 0, .int .u8 0, .int .u8 0, .int .u8 0, .int .u8 0, .int .u8 0, .int .u8 0] 61)).heap.size _)
  have HA1 := hid hA2.ccT
  have HA2 := hid hA2.ccX
  have HA := hid hA
  have HR : Hid (Blk _ (w.heap.size + 1) 61 (hc 0 (zb 16) (zb 8) 0).toArray) := hR
  have HN : Hid (Blk _ (w.heap.size + 1 + 1) 61 (hc 0 (zb 16) (zb 8) 0).toArray) := hN
  have HBW := hid hbw
  have HL16 := hid (show (b8s t).length = 16 by simp [ht])
  have HC := hid (cc_cells (k := k) ht hx hp)
  clear hA hA2 hR hN hbw ht hx hp
  have HF1 := hid (show (k = 2 ∨ k = 3) → keepF k = 1 from fun h => if_pos h)
  have HF0 := hid (show ¬ (k = 2 ∨ k = 3) → keepF k = 0 from fun h => if_neg h)
  by_cases h2 : k = 2
  · have q2 : (k == 2) = true := by simpa using h2
    have HF := hid (HF1.out (.inl h2))
    clear h2 HF1 HF0
    go_enter Try.func49, Try.ntmps49
    go_wp2_with (first
      | (refine wpList_load_seg rfl 39 (.tmp 4) rfl w.heap.size 0 16 _ [] _ t rfl HA1.out rfl Try.underlying39 info_trace HT.out ?_)
      | (refine wpList_load_seg rfl 41 (.tmp 6) rfl w.heap.size 16 8 _ (b8s t) _ x rfl HA2.out HL16.out Try.underlying41 info_span HX.out ?_)
      | (refine wpList_build2 rfl 61 1 2 (.tmp 5) (.tmp 7) rfl (Av t) (Av x) _ rfl rfl (built_rnames t x HT.out HX.out) ?_; change wpList _ _ _ _ (Act.put _ _ (Hv 0 t x 0)) _)
      | (refine wpList_store_hv rfl 61 (.tmp 3) (.tmp 8) rfl (w.heap.size + 1 + 1) _ 0 0 0 0 t x (zb 16) (zb 8) rfl rfl HN.out info_rhdr HT.out HX.out (zb_length _) (zb_length _) ?_; intro w3 hw3 hN3
         have HN3 := hid hN3
         have HA3 : Hid (Blk w3 w.heap.size 69 (cc t x p k).toArray) := by rw [hw3]; exact setRow_far HA.out (by omega)
         have HR3 : Hid (Blk w3 (w.heap.size + 1) 61 (hc 0 (zb 16) (zb 8) 0).toArray) := by rw [hw3]; exact setRow_far HR.out (by omega)
         have HBW3 : Hid (Below w.heap.size w w3) := by rw [hw3]; exact setRow_below HBW.out (by omega) _
         have c32 : w3.cell? ⟨w.heap.size, 32, none⟩ = some (.int .i64 k) := (HA3.out.cell 32).trans HC.out
         have f25 : w3.frozen? ⟨w.heap.size + 1 + 1, 25, none⟩ = false := HN3.out.frozen 25
         have d25 : w3.cell? ⟨w.heap.size + 1 + 1, 25, none⟩ = some (.int .u8 0) := (HN3.out.cell 25).trans (hc_cells HT.out HX.out).2
         have HN4 : Hid (Blk (w3.setCell ⟨w.heap.size + 1 + 1, 25, none⟩ (.int .u8 1)) (w.heap.size + 1 + 1) 61 (hc 0 t x 1).toArray) := HN3.out.setF HT.out HX.out 1
         have HR4 : Hid (Blk (w3.setCell ⟨w.heap.size + 1 + 1, 25, none⟩ (.int .u8 1)) (w.heap.size + 1) 61 (hc 0 (zb 16) (zb 8) 0).toArray) := HR3.out.far (show w.heap.size + 1 ≠ w.heap.size + 1 + 1 by omega) _
         have HBW4 : Hid (Below w.heap.size w (w3.setCell ⟨w.heap.size + 1 + 1, 25, none⟩ (.int .u8 1))) := below_cellAt HBW3.out (show w.heap.size ≤ w.heap.size + 1 + 1 by omega) _ _
         clear hw3 hN3)
      | (refine wpList_load_hv rfl 61 (.tmp 3) rfl (w.heap.size + 1 + 1) _ _ 0 1 t x rfl HN4.out Try.underlying61 rfl info_rhdr HT.out HX.out ?_)
      | (refine wpList_store_hv rfl 61 (.tmp 2) (.tmp 18) rfl (w.heap.size + 1) _ 0 1 0 0 t x (zb 16) (zb 8) rfl rfl HR4.out info_rhdr HT.out HX.out (zb_length _) (zb_length _) ?_; intro w5 hw5 hR5; have HR5 := hid hR5; have HW5 := hid hw5; clear hw5 hR5))
    exact bodyPost_ret (results_hv1 rfl _ _ _ _ _ 0 1 t x rfl HR5.out Try.underlying61 rfl info_rhdr HT.out HX.out) rfl ⟨by rw [HF.out], by rw [HW5.out]; exact setRow_below HBW4.out (Nat.le_succ _) _⟩
  by_cases h3 : k = 3
  · have q2 : (k == 2) = false := by simpa using h2
    have q3 : (k == 3) = true := by simpa using h3
    have HF := hid (HF1.out (.inr h3))
    clear h2 h3 HF1 HF0
    go_enter Try.func49, Try.ntmps49
    go_wp2_with (first
      | (refine wpList_load_seg rfl 39 (.tmp 4) rfl w.heap.size 0 16 _ [] _ t rfl HA1.out rfl Try.underlying39 info_trace HT.out ?_)
      | (refine wpList_load_seg rfl 41 (.tmp 6) rfl w.heap.size 16 8 _ (b8s t) _ x rfl HA2.out HL16.out Try.underlying41 info_span HX.out ?_)
      | (refine wpList_build2 rfl 61 1 2 (.tmp 5) (.tmp 7) rfl (Av t) (Av x) _ rfl rfl (built_rnames t x HT.out HX.out) ?_; change wpList _ _ _ _ (Act.put _ _ (Hv 0 t x 0)) _)
      | (refine wpList_store_hv rfl 61 (.tmp 3) (.tmp 8) rfl (w.heap.size + 1 + 1) _ 0 0 0 0 t x (zb 16) (zb 8) rfl rfl HN.out info_rhdr HT.out HX.out (zb_length _) (zb_length _) ?_; intro w3 hw3 hN3
         have HN3 := hid hN3
         have HA3 : Hid (Blk w3 w.heap.size 69 (cc t x p k).toArray) := by rw [hw3]; exact setRow_far HA.out (by omega)
         have HR3 : Hid (Blk w3 (w.heap.size + 1) 61 (hc 0 (zb 16) (zb 8) 0).toArray) := by rw [hw3]; exact setRow_far HR.out (by omega)
         have HBW3 : Hid (Below w.heap.size w w3) := by rw [hw3]; exact setRow_below HBW.out (by omega) _
         have c32 : w3.cell? ⟨w.heap.size, 32, none⟩ = some (.int .i64 k) := (HA3.out.cell 32).trans HC.out
         have f25 : w3.frozen? ⟨w.heap.size + 1 + 1, 25, none⟩ = false := HN3.out.frozen 25
         have d25 : w3.cell? ⟨w.heap.size + 1 + 1, 25, none⟩ = some (.int .u8 0) := (HN3.out.cell 25).trans (hc_cells HT.out HX.out).2
         have HN4 : Hid (Blk (w3.setCell ⟨w.heap.size + 1 + 1, 25, none⟩ (.int .u8 1)) (w.heap.size + 1 + 1) 61 (hc 0 t x 1).toArray) := HN3.out.setF HT.out HX.out 1
         have HR4 : Hid (Blk (w3.setCell ⟨w.heap.size + 1 + 1, 25, none⟩ (.int .u8 1)) (w.heap.size + 1) 61 (hc 0 (zb 16) (zb 8) 0).toArray) := HR3.out.far (show w.heap.size + 1 ≠ w.heap.size + 1 + 1 by omega) _
         have HBW4 : Hid (Below w.heap.size w (w3.setCell ⟨w.heap.size + 1 + 1, 25, none⟩ (.int .u8 1))) := below_cellAt HBW3.out (show w.heap.size ≤ w.heap.size + 1 + 1 by omega) _ _
         clear hw3 hN3)
      | (refine wpList_load_hv rfl 61 (.tmp 3) rfl (w.heap.size + 1 + 1) _ _ 0 1 t x rfl HN4.out Try.underlying61 rfl info_rhdr HT.out HX.out ?_)
      | (refine wpList_store_hv rfl 61 (.tmp 2) (.tmp 18) rfl (w.heap.size + 1) _ 0 1 0 0 t x (zb 16) (zb 8) rfl rfl HR4.out info_rhdr HT.out HX.out (zb_length _) (zb_length _) ?_; intro w5 hw5 hR5; have HR5 := hid hR5; have HW5 := hid hw5; clear hw5 hR5))
    exact bodyPost_ret (results_hv1 rfl _ _ _ _ _ 0 1 t x rfl HR5.out Try.underlying61 rfl info_rhdr HT.out HX.out) rfl ⟨by rw [HF.out], by rw [HW5.out]; exact setRow_below HBW4.out (Nat.le_succ _) _⟩
  · have q2 : (k == 2) = false := by simpa using h2
    have q3 : (k == 3) = false := by simpa using h3
    have HF := hid (HF0.out (by omega))
    clear h2 h3 HF1 HF0
    go_enter Try.func49, Try.ntmps49
    go_wp2_with (first
      | (refine wpList_load_seg rfl 39 (.tmp 4) rfl w.heap.size 0 16 _ [] _ t rfl HA1.out rfl Try.underlying39 info_trace HT.out ?_)
      | (refine wpList_load_seg rfl 41 (.tmp 6) rfl w.heap.size 16 8 _ (b8s t) _ x rfl HA2.out HL16.out Try.underlying41 info_span HX.out ?_)
      | (refine wpList_build2 rfl 61 1 2 (.tmp 5) (.tmp 7) rfl (Av t) (Av x) _ rfl rfl (built_rnames t x HT.out HX.out) ?_; change wpList _ _ _ _ (Act.put _ _ (Hv 0 t x 0)) _)
      | (refine wpList_store_hv rfl 61 (.tmp 3) (.tmp 8) rfl (w.heap.size + 1 + 1) _ 0 0 0 0 t x (zb 16) (zb 8) rfl rfl HN.out info_rhdr HT.out HX.out (zb_length _) (zb_length _) ?_; intro w3 hw3 hN3
         have HN3 := hid hN3
         have HA3 : Hid (Blk w3 w.heap.size 69 (cc t x p k).toArray) := by rw [hw3]; exact setRow_far HA.out (by omega)
         have HR3 : Hid (Blk w3 (w.heap.size + 1) 61 (hc 0 (zb 16) (zb 8) 0).toArray) := by rw [hw3]; exact setRow_far HR.out (by omega)
         have HBW3 : Hid (Below w.heap.size w w3) := by rw [hw3]; exact setRow_below HBW.out (by omega) _
         have c32 : w3.cell? ⟨w.heap.size, 32, none⟩ = some (.int .i64 k) := (HA3.out.cell 32).trans HC.out
         have HN4 := HN3
         have HR4 := HR3
         have HBW4 := HBW3
         clear hw3 hN3)
      | (refine wpList_load_hv rfl 61 (.tmp 3) rfl (w.heap.size + 1 + 1) _ _ 0 0 t x rfl HN4.out Try.underlying61 rfl info_rhdr HT.out HX.out ?_)
      | (refine wpList_store_hv rfl 61 (.tmp 2) (.tmp 18) rfl (w.heap.size + 1) _ 0 0 0 0 t x (zb 16) (zb 8) rfl rfl HR4.out info_rhdr HT.out HX.out (zb_length _) (zb_length _) ?_; intro w5 hw5 hR5; have HR5 := hid hR5; have HW5 := hid hw5; clear hw5 hR5))
    exact bodyPost_ret (results_hv1 rfl _ _ _ _ _ 0 0 t x rfl HR5.out Try.underlying61 rfl info_rhdr HT.out HX.out) rfl ⟨by rw [HF.out], by rw [HW5.out]; exact setRow_below HBW4.out (Nat.le_succ _) _⟩

set_option maxRecDepth 100000 in
set_option maxHeartbeats 1000000 in
theorem pctx_any (v f : Int) (t x : List UInt8) (w : World) (ht : t.length = 16) (hx : x.length = 8) (f0 : 0 ≤ f) (f1 : f ≤ 255) :
    Calls Try.prog 50 #[Hv v t x f] w fun e w' => e = .returned (Cv t x (zb 8) (1 + f % 2)) ∧ Below w.heap.size w w' := by
  have HT := hid ht
  have HX := hid hx
  obtain ⟨hA, hR, hN, _, _, _, hbw⟩ := box3 (Below.refl (((w.alloc (.cells (hc v t x f).toArray 58)).alloc (.cells #[.int .u8 0, .int .u8 0, .int .u8 0, .int .u8 0, .int .u8 0, .int .u8 0, .int .u8 0, .int .u8 0, .int .u8 0, .int .u8 0, .int .u8 0, .int .u8 0, .int .u8 0, .int .u8 0, .int .u8 0, .int .u8 0, .int .u8 0, .int .u8 0, .int .u8 0, .int .u8 0, .int .u8 0, .int .u8 0, .int .u8 0, .int .u8 0, .int .u8 0, .int .u8 0, .int .u8 0, .int .u8 0, .int .u8 0, .int .u8 0, .int .u8 0, .int .u8 0, .int .i64 0] 69)).alloc (.cells #[.int .u8 0, .int .u8 0, .int .u8 0, .int .u8 0, .int .u8 0, .int .u8 0, .int .u8 0, .int .u8 0, .int .u8 0, .int .u8 0, .int .u8 0, .int .u8 0, .int .u8 0, .int .u8 0, .int .u8 0, .int .u8 0, .int .u8 0, .int .u8 0, .int .u8 0, .int .u8 0, .int .u8 0, .int .u8 0, .int .u8 0, .int .u8 0, .int .u8 0, .int .u8 0, .int .u8 0, .int .u8 0, .int .u8 0, .int .u8 0, .int .u8 0, .int .u8 0, .int .i64 0] 69)).heap.size _)
  obtain ⟨hA2, _, _, _, _⟩ := box2 (Below.refl ((w.alloc (.cells (hc v t x f).toArray 58)).alloc (.cells #[.int .u8 0, .int .u8 0, .int .u8 0, .int .u8 0, .int .u8 0, .int .u8 0, .int .u8 0, .int .u8 0, .int .u8 0, .int .u8 0, .int .u8 0, .int .u8 0, .int .u8 0, .int .u8 0, .int .u8 0, .int .u8 0, .int .u8 0, .int .u8 0, .int .u8 0, .int .u8 0, .int .u8 0, .int .u8 0, .int .u8 0, .int .u8 0, .int .u8 0, .int .u8 0, .int .u8 0, .int .u8 0, .int .u8 0, .int .u8 0, .int .u8 0, .int .u8 0, .int .i64 0] 69)).heap.size _)
  have HA1 := hid hA2.hcT
  have HA2 := hid hA2.hcX
  have HA := hid hA
  have HR : Hid (Blk _ (w.heap.size + 1) 69 (cc (zb 16) (zb 8) (zb 8) 0).toArray) := hR
  have HN : Hid (Blk _ (w.heap.size + 1 + 1) 69 (cc (zb 16) (zb 8) (zb 8) 0).toArray) := hN
  have HBW := hid hbw
  have HL17 := hid (show ([Value.int .u8 v] ++ b8s t).length = 17 by simp [ht])
  have HC := hid (hc_cells (v := v) (f := f) ht hx).2
  have hand := u8_and1 f f0 f1
  clear hA hA2 hR hN hbw ht hx
  by_cases h1 : f % 2 = 0
  · have HF := hid (show 1 + f % 2 = 1 by omega)
    rw [h1] at hand
    clear h1
    go_enter Try.func50, Try.ntmps50
    go_wp2_with (first
      | (refine wpList_load_seg rfl 39 (.tmp 4) rfl w.heap.size 1 16 _ _ _ t rfl HA1.out rfl Try.underlying39 info_trace HT.out ?_)
      | (refine wpList_load_seg rfl 41 (.tmp 6) rfl w.heap.size 17 8 _ _ _ x rfl HA2.out HL17.out Try.underlying41 info_span HX.out ?_)
      | (refine wpList_build3 rfl 69 0 1 3 (.tmp 5) (.tmp 7) (.const (.int .i64 1)) rfl (Av t) (Av x) (.int .i64 1) _ rfl rfl rfl (built_ctx 1 t x HT.out HX.out) ?_; change wpList _ _ _ _ (Act.put _ _ (Cv t x (zb 8) 1)) _)
      | (refine wpList_store_cv rfl 69 (.tmp 3) (.tmp 8) rfl (w.heap.size + 1 + 1) _ 1 0 t x (zb 8) (zb 16) (zb 8) (zb 8) rfl rfl HN.out info_ctx HT.out HX.out (zb_length _) (zb_length _) (zb_length _) (zb_length _) ?_; intro w3 hw3 hN3
         have HN3 := hid hN3
         have HA3 : Hid (Blk w3 w.heap.size 58 (hc v t x f).toArray) := by rw [hw3]; exact setRow_far HA.out (by omega)
         have HR3 : Hid (Blk w3 (w.heap.size + 1) 69 (cc (zb 16) (zb 8) (zb 8) 0).toArray) := by rw [hw3]; exact setRow_far HR.out (by omega)
         have HBW3 : Hid (Below w.heap.size w w3) := by rw [hw3]; exact setRow_below HBW.out (by omega) _
         have c25 : w3.cell? ⟨w.heap.size, 25, none⟩ = some (.int .u8 f) := (HA3.out.cell 25).trans HC.out
         have HN4 := HN3
         have HR4 := HR3
         have HBW4 := HBW3
         clear hw3 hN3)
      | (refine wpList_load_cv rfl 69 (.tmp 3) rfl (w.heap.size + 1 + 1) _ _ 1 t x (zb 8) rfl HN4.out Try.underlying69 rfl info_ctx HT.out HX.out (zb_length _) ?_)
      | (refine wpList_store_cv rfl 69 (.tmp 2) (.tmp 14) rfl (w.heap.size + 1) _ 1 0 t x (zb 8) (zb 16) (zb 8) (zb 8) rfl rfl HR4.out info_ctx HT.out HX.out (zb_length _) (zb_length _) (zb_length _) (zb_length _) ?_; intro w5 hw5 hR5; have HR5 := hid hR5; have HW5 := hid hw5; clear hw5 hR5))
    exact bodyPost_ret (results_cv1 rfl _ _ _ _ _ 1 t x (zb 8) rfl HR5.out Try.underlying69 rfl info_ctx HT.out HX.out (zb_length _)) rfl ⟨by rw [HF.out], by rw [HW5.out]; exact setRow_below HBW4.out (Nat.le_succ _) _⟩
  · have HF := hid (show 1 + f % 2 = 2 by omega)
    rw [show f % 2 = 1 by omega] at hand
    clear h1
    go_enter Try.func50, Try.ntmps50
    go_wp2_with (first
      | (refine wpList_load_seg rfl 39 (.tmp 4) rfl w.heap.size 1 16 _ _ _ t rfl HA1.out rfl Try.underlying39 info_trace HT.out ?_)
      | (refine wpList_load_seg rfl 41 (.tmp 6) rfl w.heap.size 17 8 _ _ _ x rfl HA2.out HL17.out Try.underlying41 info_span HX.out ?_)
      | (refine wpList_build3 rfl 69 0 1 3 (.tmp 5) (.tmp 7) (.const (.int .i64 1)) rfl (Av t) (Av x) (.int .i64 1) _ rfl rfl rfl (built_ctx 1 t x HT.out HX.out) ?_; change wpList _ _ _ _ (Act.put _ _ (Cv t x (zb 8) 1)) _)
      | (refine wpList_store_cv rfl 69 (.tmp 3) (.tmp 8) rfl (w.heap.size + 1 + 1) _ 1 0 t x (zb 8) (zb 16) (zb 8) (zb 8) rfl rfl HN.out info_ctx HT.out HX.out (zb_length _) (zb_length _) (zb_length _) (zb_length _) ?_; intro w3 hw3 hN3
         have HN3 := hid hN3
         have HA3 : Hid (Blk w3 w.heap.size 58 (hc v t x f).toArray) := by rw [hw3]; exact setRow_far HA.out (by omega)
         have HR3 : Hid (Blk w3 (w.heap.size + 1) 69 (cc (zb 16) (zb 8) (zb 8) 0).toArray) := by rw [hw3]; exact setRow_far HR.out (by omega)
         have HBW3 : Hid (Below w.heap.size w w3) := by rw [hw3]; exact setRow_below HBW.out (by omega) _
         have c25 : w3.cell? ⟨w.heap.size, 25, none⟩ = some (.int .u8 f) := (HA3.out.cell 25).trans HC.out
         have f32 : w3.frozen? ⟨w.heap.size + 1 + 1, 32, none⟩ = false := HN3.out.frozen 32
         have d32 : w3.cell? ⟨w.heap.size + 1 + 1, 32, none⟩ = some (.int .i64 1) := (HN3.out.cell 32).trans (cc_cells HT.out HX.out (zb_length _))
         have HN4 : Hid (Blk (w3.setCell ⟨w.heap.size + 1 + 1, 32, none⟩ (.int .i64 2)) (w.heap.size + 1 + 1) 69 (cc t x (zb 8) 2).toArray) := HN3.out.setK HT.out HX.out (zb_length _) 2
         have HR4 : Hid (Blk (w3.setCell ⟨w.heap.size + 1 + 1, 32, none⟩ (.int .i64 2)) (w.heap.size + 1) 69 (cc (zb 16) (zb 8) (zb 8) 0).toArray) := HR3.out.far (show w.heap.size + 1 ≠ w.heap.size + 1 + 1 by omega) _
         have HBW4 : Hid (Below w.heap.size w (w3.setCell ⟨w.heap.size + 1 + 1, 32, none⟩ (.int .i64 2))) := below_cellAt HBW3.out (show w.heap.size ≤ w.heap.size + 1 + 1 by omega) _ _
         clear hw3 hN3)
      | (refine wpList_load_cv rfl 69 (.tmp 3) rfl (w.heap.size + 1 + 1) _ _ 2 t x (zb 8) rfl HN4.out Try.underlying69 rfl info_ctx HT.out HX.out (zb_length _) ?_)
      | (refine wpList_store_cv rfl 69 (.tmp 2) (.tmp 14) rfl (w.heap.size + 1) _ 2 0 t x (zb 8) (zb 16) (zb 8) (zb 8) rfl rfl HR4.out info_ctx HT.out HX.out (zb_length _) (zb_length _) (zb_length _) (zb_length _) ?_; intro w5 hw5 hR5; have HR5 := hid hR5; have HW5 := hid hw5; clear hw5 hR5))
    exact bodyPost_ret (results_cv1 rfl _ _ _ _ _ 2 t x (zb 8) rfl HR5.out Try.underlying69 rfl info_ctx HT.out HX.out (zb_length _)) rfl ⟨by rw [HF.out], by rw [HW5.out]; exact setRow_below HBW4.out (Nat.le_succ _) _⟩

set_option maxRecDepth 100000 in
set_option maxHeartbeats 1000000 in
theorem rctx_any (v f : Int) (t x : List UInt8) (w : World) (ht : t.length = 16) (hx : x.length = 8) (f0 : 0 ≤ f) (f1 : f ≤ 255) :
    Calls Try.prog 51 #[Hv v t x f] w fun e w' => e = .returned (Cv t x (zb 8) (1 + f % 2)) ∧ Below w.heap.size w w' := by
  have HT := hid ht
  have HX := hid hx
  obtain ⟨hA, hR, _, _, hbw⟩ := box2 (Below.refl ((w.alloc (.cells (hc v t x f).toArray 61)).alloc (.cells #[.int .u8 0, .int .u8 0, .int .u8 0, .int .u8 0, .int .u8 0, .int .u8 0, .int .u8 0, .int .u8 0, .int .u8 0, .int .u8 0, .int .u8 0, .int .u8 0, .int .u8 0, .int .u8 0, .int .u8 0, .int .u8 0, .int .u8 0, .int .u8 0, .int .u8 0, .int .u8 0, .int .u8 0, .int .u8 0, .int .u8 0, .int .u8 0, .int .u8 0, .int .u8 0, .int .u8 0, .int .u8 0, .int .u8 0, .int .u8 0, .int .u8 0, .int .u8 0, .int .i64 0] 69)).heap.size _)
  have HA1 := hid hA.hcT
  have HA2 := hid hA.hcX
  have c25 := (hA.cell 25).trans (hc_cells (v := v) (f := f) ht hx).2
  have HR : Hid (Blk _ (w.heap.size + 1) 69 (cc (zb 16) (zb 8) (zb 8) 0).toArray) := hR
  have HBW := hid hbw
  have HL17 := hid (show ([Value.int .u8 v] ++ b8s t).length = 17 by simp [ht])
  clear hA hR hbw ht hx
  go_enter Try.func51, Try.ntmps51
  go_wp2_with (first
      | (refine wpList_load_seg rfl 39 (.tmp 3) rfl w.heap.size 1 16 _ _ _ t rfl HA1.out rfl Try.underlying39 info_trace HT.out ?_)
      | (refine wpList_load_seg rfl 41 (.tmp 5) rfl w.heap.size 17 8 _ _ _ x rfl HA2.out HL17.out Try.underlying41 info_span HX.out ?_)
      | (refine wpList_build3 rfl 69 0 1 3 (.tmp 4) (.tmp 6) (.tmp 11) rfl (Av t) (Av x) (.int .i64 (1 + f % 2)) _ rfl rfl rfl (built_ctx (1 + f % 2) t x HT.out HX.out) ?_; change wpList _ _ _ _ (Act.put _ _ (Cv t x (zb 8) (1 + f % 2))) _)
      | (refine wpList_store_cv rfl 69 (.tmp 2) (.tmp 12) rfl (w.heap.size + 1) _ (1 + f % 2) 0 t x (zb 8) (zb 16) (zb 8) (zb 8) rfl rfl HR.out info_ctx HT.out HX.out (zb_length _) (zb_length _) (zb_length _) (zb_length _) ?_; intro w5 hw5 hR5; have HR5 := hid hR5; have HW5 := hid hw5; clear hw5 hR5))
  exact bodyPost_ret (results_cv1 rfl _ _ _ _ _ (1 + f % 2) t x (zb 8) rfl HR5.out Try.underlying69 rfl info_ctx HT.out HX.out (zb_length _)) rfl ⟨rfl, by rw [HW5.out]; exact setRow_below HBW.out (Nat.le_succ _) _⟩
end Go.Proofs.Ytdjbgojdkaipfaa
