/-
  Texts for the laws of this seat, merged: ParentMore, ParentOf, Ctx, Frm, Zero.
-/
import Derived.Deep.RegionHeld3
import Derived.Test.YtgfdmdikiickpaaGreatDoorMA
import Derived.Test.YtgfdmdikiickpaaGreatDoorMB
/-! ParentMore -/
namespace Go.Proofs.YtgfdmdikiickpaaGreatDoor
open Go.RowKit

def mayB (t x : List UInt8) : Bool := !(t == zb 16) && !(x == zb 8)
theorem hvq_same (v f : Int) (t x : List UInt8) : hvq v t x f v (zb 16) (zb 8) f = ((t == zb 16) && (x == zb 8)) := by
  simp [hvq]
set_option maxRecDepth 100000 in
set_option maxHeartbeats 1000000 in
theorem pmay_any (v f : Int) (t x : List UInt8) (w : World) (ht : t.length = 16) (hx : x.length = 8) :
    Calls Tryz.prog 68 #[Hv v t x f] w fun e w' => e = .returned (.bool (mayB t x)) ∧ Below w.heap.size w w' := by
  have HT := hid ht
  have HX := hid hx
  have HB := hid (Blk.new w 84 (hc v t x f).toArray)
  have HB1 : Hid (Blk (w.alloc (.cells (hc v t x f).toArray 84)) w.heap.size 84 ([Value.int .u8 v] ++ (b8s t ++ (b8s x ++ [Value.int .u8 f]))).toArray) := by rw [← hc_trace]; exact Blk.new w _ _
  have HB2 : Hid (Blk (w.alloc (.cells (hc v t x f).toArray 84)) w.heap.size 84 (([Value.int .u8 v] ++ b8s t) ++ (b8s x ++ [Value.int .u8 f])).toArray) := by rw [← hc_span]; exact Blk.new w _ _
  obtain ⟨c0, c25⟩ := hc_cells (v := v) (f := f) ht hx
  have d0 : (w.alloc (.cells (hc v t x f).toArray 84)).cell? ⟨w.heap.size, 0, none⟩ = some (.int .u8 v) := (Blk.cell (Blk.new w _ _) 0).trans c0
  have d25 : (w.alloc (.cells (hc v t x f).toArray 84)).cell? ⟨w.heap.size, 25, none⟩ = some (.int .u8 f) := (Blk.cell (Blk.new w _ _) 25).trans c25
  have eq0 := fun u => run_neq_hv u v f v f t x (zb 16) (zb 8) ht hx (zb_length _) (zb_length _)
  rw [hvq_same] at eq0
  have eq1 := fun u => run_neq_z16 u t ht
  have eq2 := fun u => run_neq_z8 u x hx
  have l17 : ([Value.int .u8 v] ++ b8s t).length = 17 := by simp [ht]
  have HL17 := hid l17
  clear ht hx c0 c25 l17
  have HM := hid (show mayB t x = (!(t == zb 16) && !(x == zb 8)) from rfl)
  cases ha : (t == zb 16) <;> cases hb : (x == zb 8)
  all_goals
    rw [ha, hb] at eq0 HM
    rw [ha] at eq1
    rw [hb] at eq2
    simp only [Bool.and_true, Bool.and_false, Bool.not_false, Bool.not_true] at eq0 eq1 eq2 HM
    go_enter Tryz.func68, Tryz.ntmps68
    go_wp2_with (first
      | (refine wpList_load_hv rfl 84 (.tmp 1) rfl w.heap.size _ _ v f t x rfl HB.out Tryz.underlying84 rfl info_hdr HT.out HX.out ?_)
      | (refine wpList_build2 rfl 84 0 3 (.tmp 5) (.tmp 7) rfl (.int .u8 v) (.int .u8 f) _ rfl rfl (built_ends v f) ?_; change wpList _ _ _ _ (Act.put _ _ (Hv v (zb 16) (zb 8) f)) _)
      | (refine wpList_load_segW rfl 27 (.tmp 11) rfl w.heap.size 1 16 _ _ _ t rfl HB1.out rfl Tryz.underlying27 info_trace HT.out ?_)
      | (refine wpList_load_segW rfl 29 (.tmp 17) rfl w.heap.size 17 8 _ _ _ x rfl HB2.out HL17.out Tryz.underlying29 info_span HX.out ?_))
    go_ret
    exact ⟨by rw [HM.out]; rfl, ext_alloc _ _⟩
structure Th (w : World) (g : Nat) (T : TypeId) (v f : Int) (t s : List UInt8) (x : Value) (u : World) : Prop where
  h : Blk u g T (hc v t s f).toArray
  tok : Bs u u.heap.size x [bt f]
  bel : Below w.heap.size w u
theorem Th.ext {w u u' : World} {g : Nat} {T : TypeId} {v f : Int} {t s : List UInt8} {x : Value} (k : Th w g T v f t s x u) (hb : Below u.heap.size u u') : Th w g T v f t s x u' :=
  ⟨k.h.below hb k.h.lt, (k.tok.below hb).more hb.size, k.bel.trans (hb.mono k.bel.size)⟩
theorem Th.call {w u : World} {g : Nat} {T : TypeId} {v f : Int} {t s : List UInt8} {x : Value} (k : Th w g T v f t s x u) {fn : FuncId} {args : Array Value} {r : Value} (hc : Calls Tryz.prog fn args u fun e u' => e = .returned r ∧ Below u.heap.size u u') :
    Calls Tryz.prog fn args u fun e u' => e = .returned r ∧ Th w g T v f t s x u' := hc.mono fun _ _ ⟨he, hb⟩ => ⟨he, k.ext hb⟩
theorem Th.start {w u : World} {g : Nat} {T : TypeId} {v f : Int} {t s : List UInt8} (h : Blk u g T (hc v t s f).toArray) (hb : Below w.heap.size w u) (ht : t.length = 16) (hs : s.length = 8) (f0 : 0 ≤ f) (f1 : f ≤ 255) :
    Th w g T v f t s (.slice (some ⟨g, 25, none⟩) 1 1) u := by
  refine ⟨h, ⟨some ⟨g, 25, none⟩, 1, rfl, Nat.le_refl _, rfl, fun _ => ⟨_, rfl, h.lt, fun j q hq => ?_⟩⟩, hb⟩
  cases j with
  | zero =>
    have e : (b8s [bt f])[0]? = some (.int .u8 f) := by simp [b8s, b8_bt f f0 f1]
    rw [e] at hq
    rw [← hq]
    show u.cell? ⟨g, 25, none⟩ = _
    rw [h.cell 25, (hc_cells ht hs).2]
  | succ j => simp [b8s] at hq
theorem Th.loadT {w u : World} {g : Nat} {T : TypeId} {v f : Int} {t s : List UInt8} {x : Value} (k : Th w g T v f t s x u) (ht : t.length = 16) : (Instr.loadAt 27 (.pointer (some ⟨g, 1, none⟩))).run Tryz.prog u = .ok (Av t) u :=
  run_loadAt_mid u g 1 27 (b8s t) _ (run_load_seg (_n := 16) (_ty := 27) (by rw [← hc_trace]; exact k.h) rfl) Tryz.underlying27 rfl (by rw [info_trace]; simp [ht])
theorem Th.loadX {w u : World} {g : Nat} {T : TypeId} {v f : Int} {t s : List UInt8} {x : Value} (k : Th w g T v f t s x u) (ht : t.length = 16) (hs : s.length = 8) : (Instr.loadAt 29 (.pointer (some ⟨g, 17, none⟩))).run Tryz.prog u = .ok (Av s) u :=
  run_loadAt_mid u g 17 29 (b8s s) _ (run_load_seg (_n := 8) (_ty := 29) (by rw [← hc_span]; exact k.h) (by simp [ht])) Tryz.underlying29 rfl (by rw [info_span]; simp [hs])
theorem Th.loadF {w u : World} {g : Nat} {T : TypeId} {v f : Int} {t s : List UInt8} {x : Value} (k : Th w g T v f t s x u) (ht : t.length = 16) (hs : s.length = 8) : (Instr.loadAt 5 (.pointer (some ⟨g, 25, none⟩))).run Tryz.prog u = .ok (.int .u8 f) u := by
  have hcell : u.cell? ⟨g, 25, none⟩ = some (.int .u8 f) := by rw [k.h.cell 25, (hc_cells ht hs).2]
  go_simp
theorem Th.make {w u : World} {g : Nat} {T : TypeId} {v f : Int} {t s : List UInt8} {x : Value} (k : Th w g T v f t s x u) (f0 : 0 ≤ f) (f1 : f ≤ 255) : Th w g T v f t s (.slice (some ⟨u.heap.size, 0, none⟩) 1 1) (u.alloc (.cells #[.int .u8 f] 5)) := by
  have k' := k.ext (ext_alloc u (.cells #[.int .u8 f] 5))
  exact ⟨k'.h, bs_new u [bt f] _ (0, 0) 1 (by simp [b8s, b8_bt f f0 f1]) rfl, k'.bel⟩
def textH (t x : List UInt8) (f : Int) : List UInt8 := if mayB t x = true then [48, 48, 45] ++ hexEnc t ++ [45] ++ hexEnc x ++ [45] ++ hexEnc [bt f] else []
set_option maxRecDepth 100000 in
set_option maxHeartbeats 4000000 in
theorem ptext_any (v f : Int) (t x : List UInt8) (w : World) (ht : t.length = 16) (hx : x.length = 8) (f0 : 0 ≤ f) (f1 : f ≤ 255) :
    Calls Tryz.prog 35 #[Hv v t x f] w fun e w' => e = .returned (Sv (textH t x f)) ∧ Below w.heap.size w w' := by
  have HT := hid ht
  have HX := hid hx
  have HB := hid (Blk.new w 84 (hc v t x f).toArray)
  have HBW := hid (ext_alloc w (.cells (hc v t x f).toArray 84))
  have HB1 : Hid (Blk (w.alloc (.cells (hc v t x f).toArray 84)) w.heap.size 84 ([Value.int .u8 v] ++ (b8s t ++ (b8s x ++ [Value.int .u8 f]))).toArray) := by rw [← hc_trace]; exact Blk.new w _ _
  have HB2 : Hid (Blk (w.alloc (.cells (hc v t x f).toArray 84)) w.heap.size 84 (([Value.int .u8 v] ++ b8s t) ++ (b8s x ++ [Value.int .u8 f])).toArray) := by rw [← hc_span]; exact Blk.new w _ _
  obtain ⟨c0, c25⟩ := hc_cells (v := v) (f := f) ht hx
  have C25 := hid c25
  have HL17 := hid (show ([Value.int .u8 v] ++ b8s t).length = 17 by simp [ht])
  have l1 := hid (hexEnc_length t)
  have l2 := hid (hexEnc_length x)
  clear c0 c25 ht hx
  cases hm : mayB t x with
  | false =>
    have HR := hid (show textH t x f = [] by unfold textH; rw [hm]; rfl)
    have HM := hid hm
    clear hm
    go_enter Tryz.func35, Tryz.ntmps35
    go_wp2_with (refine wpList_load_hv rfl 84 (.tmp 1) rfl w.heap.size _ _ v f t x rfl HB.out Tryz.underlying84 rfl info_hdr HT.out HX.out ?_)
    refine (pmay_any v f t x _ HT.out HX.out).mono ?_; rintro e w1 ⟨rfl, hb1⟩
    rw [HM.out]
    go_wp2_with fail
    go_ret
    exact ⟨by rw [HR.out]; rfl, HBW.out.trans (hb1.mono HBW.out.size)⟩
  | true =>
    have HR := hid (show textH t x f = [48, 48, 45] ++ hexEnc t ++ [45] ++ hexEnc x ++ [45] ++ hexEnc [bt f] by unfold textH; rw [if_pos hm])
    have HM := hid hm
    clear hm
    go_enter Tryz.func35, Tryz.ntmps35
    go_wp2_with (refine wpList_load_hv rfl 84 (.tmp 1) rfl w.heap.size _ _ v f t x rfl HB.out Tryz.underlying84 rfl info_hdr HT.out HX.out ?_)
    refine (pmay_any v f t x _ HT.out HX.out).mono ?_; rintro e w1 ⟨rfl, hb1⟩
    rw [HM.out]
    go_wp2_with fail
    have HBW1 := hid (HBW.out.trans (hb1.mono HBW.out.size))
    have hS0 := hid (Th.start (HB.out.below hb1 HB.out.lt) HBW1.out HT.out HX.out f0 f1)
    obtain ⟨E, hE⟩ : ∃ E, hexEnc t = E := ⟨_, rfl⟩
    obtain ⟨D, hD⟩ : ∃ D, hexEnc x = D := ⟨_, rfl⟩
    obtain ⟨G, hG⟩ : ∃ G, hexEnc [bt f] = G := ⟨_, rfl⟩
    have le : E.length ≤ 32 := by rw [← hE, l1.out, HT.out]; decide
    have ld : D.length ≤ 16 := by rw [← hD, l2.out, HX.out]; decide
    have lg : G.length ≤ 2 := by rw [← hG]; exact Nat.le_refl _
    rw [hE, hD, hG] at HR
    clear hb1 l1 l2
    refine region_token (Th w w.heap.size 84 v f t x) 18 _ (by kernel_rfl) (by kernel_rfl) (hS0.out.ext (ext_drew _)) ?_
    clear hS0
    (refine tok_pure (v := ?_) (by decide) (fun _ => by rfl) ?_ ?_; rotate_left; (focus (intro x u; simp only [fam]; go_simp; with_reducible rfl)); try simp only [Act.put, List.setIfInBounds_toArray, List.set_cons_zero, List.set_cons_succ])
    refine tok_load 27 (.tmp 6) rfl (by decide) (fun _ => by rfl) (fun y u k => k.loadT HT.out) ?_
    try simp only [Act.put, List.setIfInBounds_toArray, List.set_cons_zero, List.set_cons_succ]
    refine tok_call (fun y u k => k.call (hE ▸ tracetext_any t u HT.out)) (by decide) (fun _ => by rfl) (fun y u => by simp only [fam]; go_simp) ?_
    try simp only [Act.put, List.setIfInBounds_toArray, List.set_cons_zero, List.set_cons_succ]
    (refine tok_add _ _ _ _ rfl (fun _ => by rfl) (fun _ => by rfl) ?_ (by decide) (fun _ => by rfl) ?_; (focus (simp only [List.length_cons, List.length_nil]; omega)); try simp only [Act.put, List.setIfInBounds_toArray, List.set_cons_zero, List.set_cons_succ])
    (refine tok_add _ _ _ _ rfl (fun _ => by rfl) (fun _ => by rfl) ?_ (by decide) (fun _ => by rfl) ?_; (focus (simp only [List.length_append, List.length_cons, List.length_nil]; omega)); try simp only [Act.put, List.setIfInBounds_toArray, List.set_cons_zero, List.set_cons_succ])
    (refine tok_pure (v := ?_) (by decide) (fun _ => by rfl) ?_ ?_; rotate_left; (focus (intro x u; simp only [fam]; go_simp; with_reducible rfl)); try simp only [Act.put, List.setIfInBounds_toArray, List.set_cons_zero, List.set_cons_succ])
    refine tok_load 29 (.tmp 11) rfl (by decide) (fun _ => by rfl) (fun y u k => k.loadX HT.out HX.out) ?_
    try simp only [Act.put, List.setIfInBounds_toArray, List.set_cons_zero, List.set_cons_succ]
    refine tok_call (fun y u k => k.call (hD ▸ spantext_any x u HX.out)) (by decide) (fun _ => by rfl) (fun y u => by simp only [fam]; go_simp) ?_
    try simp only [Act.put, List.setIfInBounds_toArray, List.set_cons_zero, List.set_cons_succ]
    (refine tok_add _ _ _ _ rfl (fun _ => by rfl) (fun _ => by rfl) ?_ (by decide) (fun _ => by rfl) ?_; (focus (simp only [List.length_append, List.length_cons, List.length_nil]; omega)); try simp only [Act.put, List.setIfInBounds_toArray, List.set_cons_zero, List.set_cons_succ])
    (refine tok_add _ _ _ _ rfl (fun _ => by rfl) (fun _ => by rfl) ?_ (by decide) (fun _ => by rfl) ?_; (focus (simp only [List.length_append, List.length_cons, List.length_nil]; omega)); try simp only [Act.put, List.setIfInBounds_toArray, List.set_cons_zero, List.set_cons_succ])
    (refine tok_pure (v := ?_) (by decide) (fun _ => by rfl) ?_ ?_; rotate_left; (focus (intro x u; simp only [fam]; go_simp; with_reducible rfl)); try simp only [Act.put, List.setIfInBounds_toArray, List.set_cons_zero, List.set_cons_succ])
    refine tok_load 5 (.tmp 16) rfl (by decide) (fun _ => by rfl) (fun y u k => k.loadF HT.out HX.out) ?_
    try simp only [Act.put, List.setIfInBounds_toArray, List.set_cons_zero, List.set_cons_succ]
    refine tok_make rfl (by rfl) (fun y u k => ⟨_, _, by go_simp, k.make f0 f1⟩) ?_
    try simp only [Act.put, List.setIfInBounds_toArray, List.set_cons_zero, List.set_cons_succ]
    refine tok_run (v := Sv [bt f]) (by decide) (fun _ => by rfl) (fun y u k => by
      have hr := run_to_string k.tok
      simp only [fam, Act.put, List.setIfInBounds_toArray, List.set_cons_zero, List.set_cons_succ]
      simp [execOp, Act.eval, hr, Result.andThen]) ?_
    try simp only [Act.put, List.setIfInBounds_toArray, List.set_cons_zero, List.set_cons_succ]
    refine tok_call (fun y u k => k.call (hG ▸ htext_any [bt f] u (by simp))) (by decide) (fun _ => by rfl) (fun y u => by simp only [fam, Act.put, List.setIfInBounds_toArray, List.set_cons_zero, List.set_cons_succ]; go_simp) ?_
    try simp only [Act.put, List.setIfInBounds_toArray, List.set_cons_zero, List.set_cons_succ]
    (refine tok_add _ _ _ _ rfl (fun _ => by rfl) (fun _ => by rfl) ?_ (by decide) (fun _ => by rfl) ?_; (focus (simp only [List.length_append, List.length_cons, List.length_nil]; omega)); try simp only [Act.put, List.setIfInBounds_toArray, List.set_cons_zero, List.set_cons_succ])
    (refine tok_pure (v := ?_) (by decide) (fun _ => by rfl) ?_ ?_; rotate_left; (focus (intro x u; simp only [fam, Act.put, List.setIfInBounds_toArray, List.set_cons_zero, List.set_cons_succ]; go_simp; with_reducible rfl)); try simp only [Act.put, List.setIfInBounds_toArray, List.set_cons_zero, List.set_cons_succ])
    refine tok_nil (fun y u k => ?_)
    simp only [fam, Act.put, List.setIfInBounds_toArray, List.set_cons_zero, List.set_cons_succ]
    have KB := hid k.bel
    clear k
    go_wp2_with fail
    go_ret
    exact ⟨by rw [HR.out]; simp, KB.out⟩
end Go.Proofs.YtgfdmdikiickpaaGreatDoor

/-! ParentOf -/
namespace Go.Proofs.YtgfdmdikiickpaaGreatDoor
open Go.RowKit

theorem Blk.hcT {w : World} {g : Nat} {T : TypeId} {v f : Int} {t s : List UInt8} (h : Blk w g T (hc v t s f).toArray) : Blk w g T ([Value.int .u8 v] ++ (b8s t ++ (b8s s ++ [Value.int .u8 f]))).toArray := by rw [← hc_trace]; exact h
theorem Blk.hcX {w : World} {g : Nat} {T : TypeId} {v f : Int} {t s : List UInt8} (h : Blk w g T (hc v t s f).toArray) : Blk w g T (([Value.int .u8 v] ++ b8s t) ++ (b8s s ++ [Value.int .u8 f])).toArray := by rw [← hc_span]; exact h
theorem Blk.ccT {w : World} {g : Nat} {T : TypeId} {k : Int} {t s p : List UInt8} (h : Blk w g T (cc t s p k).toArray) : Blk w g T ([] ++ (b8s t ++ (b8s s ++ b8s p ++ [Value.int .i64 k]))).toArray := by rw [← cc_trace]; exact h
theorem Blk.ccX {w : World} {g : Nat} {T : TypeId} {k : Int} {t s p : List UInt8} (h : Blk w g T (cc t s p k).toArray) : Blk w g T (b8s t ++ (b8s s ++ (b8s p ++ [Value.int .i64 k]))).toArray := by rw [← cc_span]; exact h
theorem Blk.ccP {w : World} {g : Nat} {T : TypeId} {k : Int} {t s p : List UInt8} (h : Blk w g T (cc t s p k).toArray) : Blk w g T ((b8s t ++ b8s s) ++ (b8s p ++ [Value.int .i64 k])).toArray := by rw [← cc_parent]; exact h
theorem below_cellAt {B : Nat} {a w : World} (h : Below B a w) {g : Nat} (hg : B ≤ g) (o : Nat) (v : Value) : Below B a (w.setCell ⟨g, o, none⟩ v) := by
  have hg' : B ≤ (⟨g, o, none⟩ : Addr).block := hg
  with_reducible exact Below.setCell h hg' v
theorem Blk.setF {w : World} {g : Nat} {T : TypeId} {v f : Int} {t s : List UInt8} (h : Blk w g T (hc v t s f).toArray) (ht : t.length = 16) (hs : s.length = 8) (k : Int) : Blk (w.setCell ⟨g, 25, none⟩ (.int .u8 k)) g T (hc v t s k).toArray := by
  have := h.set_ 25 (.int .u8 k)
  rwa [hc_flags ht hs] at this
theorem Blk.setK {w : World} {g : Nat} {T : TypeId} {k : Int} {t s p : List UInt8} (h : Blk w g T (cc t s p k).toArray) (ht : t.length = 16) (hs : s.length = 8) (hp : p.length = 8) (m : Int) : Blk (w.setCell ⟨g, 32, none⟩ (.int .i64 m)) g T (cc t s p m).toArray := by
  have := h.set_ 32 (.int .i64 m)
  rwa [cc_keep ht hs hp] at this
def keepF (k : Int) : Int := if k = 2 ∨ k = 3 then 1 else 0

set_option maxRecDepth 100000 in
set_option maxHeartbeats 1000000 in
theorem pof_any (t x p : List UInt8) (k : Int) (w : World) (ht : t.length = 16) (hx : x.length = 8) (hp : p.length = 8) :
    Calls Tryz.prog 36 #[Cv t x p k] w fun e w' => e = .returned (Hv 0 t x (keepF k)) ∧ Below w.heap.size w w' := by
  have HT := hid ht
  have HX := hid hx
  have HP := hid hp
  obtain ⟨hA, hR, hN, _, _, _, hbw⟩ := box3 (Below.refl (((w.alloc (.cells (cc t x p k).toArray 31)).alloc (.cells #[.int .u8 0, .int .u8 0, .int .u8 0, .int .u8 0, .int .u8 0, .int .u8 0, .int .u8 0, .int .u8 0, .int .u8 0, .int .u8 0, .int .u8 0, .int .u8 0, .int .u8 0, .int .u8 0, .int .u8 0, .int .u8 0, .int .u8 0, .int .u8 0, .int .u8 0, .int .u8 0, .int .u8 0, .int .u8 0, .int .u8 0, .int .u8 0, .int .u8 0, .int .u8 0] 84)).alloc (.cells #[.int .u8 0, .int .u8 0, .int .u8 0, .int .u8 0, .int .u8 0, .int .u8 0, .int .u8 0, .int .u8 0, .int .u8 0, .int .u8 0, .int .u8 0, .int .u8 0, .int .u8 0, .int .u8 0, .int .u8 0, .int .u8 0, .int .u8 0, .int .u8 0, .int .u8 0, .int .u8 0, .int .u8 0, .int .u8 0, .int .u8 0, .int .u8 0, .int .u8 0, .int .u8 0] 84)).heap.size _)
  obtain ⟨hA2, _, _, _, _⟩ := box2 (Below.refl ((w.alloc (.cells (cc t x p k).toArray 31)).alloc (.cells #[.int .u8 0, .int .u8 0, .int .u8 0, .int .u8 0, .int .u8 0, .int .u8 0, .int .u8 0, .int .u8 0, .int .u8 0, .int .u8 0, .int .u8 0, .int .u8 0, .int .u8 0, .int .u8 0, .int .u8 0, .int .u8 0, .int .u8 0, .int .u8 0, .int .u8 0, .int .u8 0, .int .u8 0, .int .u8 0, .int .u8 0, .int .u8 0, .int .u8 0, .int .u8 0] 84)).heap.size _)
  have HA1 := hid hA2.ccT
  have HA2 := hid hA2.ccX
  have HA := hid hA
  have HR : Hid (Blk _ (w.heap.size + 1) 84 (hc 0 (zb 16) (zb 8) 0).toArray) := hR
  have HN : Hid (Blk _ (w.heap.size + 1 + 1) 84 (hc 0 (zb 16) (zb 8) 0).toArray) := hN
  have HBW := hid hbw
  have HL16 := hid (show (b8s t).length = 16 by simp [ht])
  have HC := hid (cc_cells (k := k) ht hx hp)
  clear hA hA2 hR hN hbw ht hx hp
  have HF1 := hid (show (k = 2 ∨ k = 3) → keepF k = 1 from fun h => if_pos h)
  have HF0 := hid (show ¬ (k = 2 ∨ k = 3) → keepF k = 0 from fun h => if_neg h)
  by_cases h2 : k = 2
  · have q2 : (k == 2) = true := by simpa using h2
    have HF := hid (HF1.out (.inl h2))
    clear h2 HF1 HF0
    go_enter Tryz.func36, Tryz.ntmps36
    go_wp2_with (first
      | (refine wpList_load_seg rfl 27 (.tmp 4) rfl w.heap.size 0 16 _ [] _ t rfl HA1.out rfl Tryz.underlying27 info_trace HT.out ?_)
      | (refine wpList_load_seg rfl 29 (.tmp 6) rfl w.heap.size 16 8 _ (b8s t) _ x rfl HA2.out HL16.out Tryz.underlying29 info_span HX.out ?_)
      | (refine wpList_build2 rfl 84 1 2 (.tmp 5) (.tmp 7) rfl (Av t) (Av x) _ rfl rfl (built_names t x HT.out HX.out) ?_; change wpList _ _ _ _ (Act.put _ _ (Hv 0 t x 0)) _)
      | (refine wpList_store_hv rfl 84 (.tmp 3) (.tmp 8) rfl (w.heap.size + 1 + 1) _ 0 0 0 0 t x (zb 16) (zb 8) rfl rfl HN.out info_hdr HT.out HX.out (zb_length _) (zb_length _) ?_; intro w3 hw3 hN3
         have HN3 := hid hN3
         have HA3 : Hid (Blk w3 w.heap.size 31 (cc t x p k).toArray) := by rw [hw3]; exact setRow_far HA.out (by omega)
         have HR3 : Hid (Blk w3 (w.heap.size + 1) 84 (hc 0 (zb 16) (zb 8) 0).toArray) := by rw [hw3]; exact setRow_far HR.out (by omega)
         have HBW3 : Hid (Below w.heap.size w w3) := by rw [hw3]; exact setRow_below HBW.out (by omega) _
         have c32 : w3.cell? ⟨w.heap.size, 32, none⟩ = some (.int .i64 k) := (HA3.out.cell 32).trans HC.out
         have f25 : w3.frozen? ⟨w.heap.size + 1 + 1, 25, none⟩ = false := HN3.out.frozen 25
         have d25 : w3.cell? ⟨w.heap.size + 1 + 1, 25, none⟩ = some (.int .u8 0) := (HN3.out.cell 25).trans (hc_cells HT.out HX.out).2
         have HN4 : Hid (Blk (w3.setCell ⟨w.heap.size + 1 + 1, 25, none⟩ (.int .u8 1)) (w.heap.size + 1 + 1) 84 (hc 0 t x 1).toArray) := HN3.out.setF HT.out HX.out 1
         have HR4 : Hid (Blk (w3.setCell ⟨w.heap.size + 1 + 1, 25, none⟩ (.int .u8 1)) (w.heap.size + 1) 84 (hc 0 (zb 16) (zb 8) 0).toArray) := HR3.out.far (show w.heap.size + 1 ≠ w.heap.size + 1 + 1 by omega) _
         have HBW4 : Hid (Below w.heap.size w (w3.setCell ⟨w.heap.size + 1 + 1, 25, none⟩ (.int .u8 1))) := below_cellAt HBW3.out (show w.heap.size ≤ w.heap.size + 1 + 1 by omega) _ _
         clear hw3 hN3)
      | (refine wpList_load_hv rfl 84 (.tmp 3) rfl (w.heap.size + 1 + 1) _ _ 0 1 t x rfl HN4.out Tryz.underlying84 rfl info_hdr HT.out HX.out ?_)
      | (refine wpList_store_hv rfl 84 (.tmp 2) (.tmp 18) rfl (w.heap.size + 1) _ 0 1 0 0 t x (zb 16) (zb 8) rfl rfl HR4.out info_hdr HT.out HX.out (zb_length _) (zb_length _) ?_; intro w5 hw5 hR5; have HR5 := hid hR5; have HW5 := hid hw5; clear hw5 hR5))
    exact bodyPost_ret (results_hv1 rfl _ _ _ _ _ 0 1 t x rfl HR5.out Tryz.underlying84 rfl info_hdr HT.out HX.out) rfl ⟨by rw [HF.out], by rw [HW5.out]; exact setRow_below HBW4.out (Nat.le_succ _) _⟩
  by_cases h3 : k = 3
  · have q2 : (k == 2) = false := by simpa using h2
    have q3 : (k == 3) = true := by simpa using h3
    have HF := hid (HF1.out (.inr h3))
    clear h2 h3 HF1 HF0
    go_enter Tryz.func36, Tryz.ntmps36
    go_wp2_with (first
      | (refine wpList_load_seg rfl 27 (.tmp 4) rfl w.heap.size 0 16 _ [] _ t rfl HA1.out rfl Tryz.underlying27 info_trace HT.out ?_)
      | (refine wpList_load_seg rfl 29 (.tmp 6) rfl w.heap.size 16 8 _ (b8s t) _ x rfl HA2.out HL16.out Tryz.underlying29 info_span HX.out ?_)
      | (refine wpList_build2 rfl 84 1 2 (.tmp 5) (.tmp 7) rfl (Av t) (Av x) _ rfl rfl (built_names t x HT.out HX.out) ?_; change wpList _ _ _ _ (Act.put _ _ (Hv 0 t x 0)) _)
      | (refine wpList_store_hv rfl 84 (.tmp 3) (.tmp 8) rfl (w.heap.size + 1 + 1) _ 0 0 0 0 t x (zb 16) (zb 8) rfl rfl HN.out info_hdr HT.out HX.out (zb_length _) (zb_length _) ?_; intro w3 hw3 hN3
         have HN3 := hid hN3
         have HA3 : Hid (Blk w3 w.heap.size 31 (cc t x p k).toArray) := by rw [hw3]; exact setRow_far HA.out (by omega)
         have HR3 : Hid (Blk w3 (w.heap.size + 1) 84 (hc 0 (zb 16) (zb 8) 0).toArray) := by rw [hw3]; exact setRow_far HR.out (by omega)
         have HBW3 : Hid (Below w.heap.size w w3) := by rw [hw3]; exact setRow_below HBW.out (by omega) _
         have c32 : w3.cell? ⟨w.heap.size, 32, none⟩ = some (.int .i64 k) := (HA3.out.cell 32).trans HC.out
         have f25 : w3.frozen? ⟨w.heap.size + 1 + 1, 25, none⟩ = false := HN3.out.frozen 25
         have d25 : w3.cell? ⟨w.heap.size + 1 + 1, 25, none⟩ = some (.int .u8 0) := (HN3.out.cell 25).trans (hc_cells HT.out HX.out).2
         have HN4 : Hid (Blk (w3.setCell ⟨w.heap.size + 1 + 1, 25, none⟩ (.int .u8 1)) (w.heap.size + 1 + 1) 84 (hc 0 t x 1).toArray) := HN3.out.setF HT.out HX.out 1
         have HR4 : Hid (Blk (w3.setCell ⟨w.heap.size + 1 + 1, 25, none⟩ (.int .u8 1)) (w.heap.size + 1) 84 (hc 0 (zb 16) (zb 8) 0).toArray) := HR3.out.far (show w.heap.size + 1 ≠ w.heap.size + 1 + 1 by omega) _
         have HBW4 : Hid (Below w.heap.size w (w3.setCell ⟨w.heap.size + 1 + 1, 25, none⟩ (.int .u8 1))) := below_cellAt HBW3.out (show w.heap.size ≤ w.heap.size + 1 + 1 by omega) _ _
         clear hw3 hN3)
      | (refine wpList_load_hv rfl 84 (.tmp 3) rfl (w.heap.size + 1 + 1) _ _ 0 1 t x rfl HN4.out Tryz.underlying84 rfl info_hdr HT.out HX.out ?_)
      | (refine wpList_store_hv rfl 84 (.tmp 2) (.tmp 18) rfl (w.heap.size + 1) _ 0 1 0 0 t x (zb 16) (zb 8) rfl rfl HR4.out info_hdr HT.out HX.out (zb_length _) (zb_length _) ?_; intro w5 hw5 hR5; have HR5 := hid hR5; have HW5 := hid hw5; clear hw5 hR5))
    exact bodyPost_ret (results_hv1 rfl _ _ _ _ _ 0 1 t x rfl HR5.out Tryz.underlying84 rfl info_hdr HT.out HX.out) rfl ⟨by rw [HF.out], by rw [HW5.out]; exact setRow_below HBW4.out (Nat.le_succ _) _⟩
  · have q2 : (k == 2) = false := by simpa using h2
    have q3 : (k == 3) = false := by simpa using h3
    have HF := hid (HF0.out (by omega))
    clear h2 h3 HF1 HF0
    go_enter Tryz.func36, Tryz.ntmps36
    go_wp2_with (first
      | (refine wpList_load_seg rfl 27 (.tmp 4) rfl w.heap.size 0 16 _ [] _ t rfl HA1.out rfl Tryz.underlying27 info_trace HT.out ?_)
      | (refine wpList_load_seg rfl 29 (.tmp 6) rfl w.heap.size 16 8 _ (b8s t) _ x rfl HA2.out HL16.out Tryz.underlying29 info_span HX.out ?_)
      | (refine wpList_build2 rfl 84 1 2 (.tmp 5) (.tmp 7) rfl (Av t) (Av x) _ rfl rfl (built_names t x HT.out HX.out) ?_; change wpList _ _ _ _ (Act.put _ _ (Hv 0 t x 0)) _)
      | (refine wpList_store_hv rfl 84 (.tmp 3) (.tmp 8) rfl (w.heap.size + 1 + 1) _ 0 0 0 0 t x (zb 16) (zb 8) rfl rfl HN.out info_hdr HT.out HX.out (zb_length _) (zb_length _) ?_; intro w3 hw3 hN3
         have HN3 := hid hN3
         have HA3 : Hid (Blk w3 w.heap.size 31 (cc t x p k).toArray) := by rw [hw3]; exact setRow_far HA.out (by omega)
         have HR3 : Hid (Blk w3 (w.heap.size + 1) 84 (hc 0 (zb 16) (zb 8) 0).toArray) := by rw [hw3]; exact setRow_far HR.out (by omega)
         have HBW3 : Hid (Below w.heap.size w w3) := by rw [hw3]; exact setRow_below HBW.out (by omega) _
         have c32 : w3.cell? ⟨w.heap.size, 32, none⟩ = some (.int .i64 k) := (HA3.out.cell 32).trans HC.out
         have HN4 := HN3
         have HR4 := HR3
         have HBW4 := HBW3
         clear hw3 hN3)
      | (refine wpList_load_hv rfl 84 (.tmp 3) rfl (w.heap.size + 1 + 1) _ _ 0 0 t x rfl HN4.out Tryz.underlying84 rfl info_hdr HT.out HX.out ?_)
      | (refine wpList_store_hv rfl 84 (.tmp 2) (.tmp 18) rfl (w.heap.size + 1) _ 0 0 0 0 t x (zb 16) (zb 8) rfl rfl HR4.out info_hdr HT.out HX.out (zb_length _) (zb_length _) ?_; intro w5 hw5 hR5; have HR5 := hid hR5; have HW5 := hid hw5; clear hw5 hR5))
    exact bodyPost_ret (results_hv1 rfl _ _ _ _ _ 0 0 t x rfl HR5.out Tryz.underlying84 rfl info_hdr HT.out HX.out) rfl ⟨by rw [HF.out], by rw [HW5.out]; exact setRow_below HBW4.out (Nat.le_succ _) _⟩

set_option maxRecDepth 100000 in
set_option maxHeartbeats 1000000 in
theorem rof_any (t x p : List UInt8) (k : Int) (w : World) (ht : t.length = 16) (hx : x.length = 8) (hp : p.length = 8) :
    Calls Tryz.prog 21 #[Cv t x p k] w fun e w' => e = .returned (Hv 0 t x (keepF k)) ∧ Below w.heap.size w w' := by
  have HT := hid ht
  have HX := hid hx
  have HP := hid hp
  obtain ⟨hA, hR, hN, _, _, _, hbw⟩ := box3 (Below.refl (((w.alloc (.cells (cc t x p k).toArray 31)).alloc (.cells #[.int .u8 0, .int .u8 0, .int .u8 0, .int .u8 0, .int .u8 0, .int .u8 0, .int .u8 0, .int .u8 0, .int .u8 0, .int .u8 0, .int .u8 0, .int .u8 0, .int .u8 0, .int .u8 0, .int .u8 0, .int .u8 0, .int .u8 0, .int .u8 0, .int .u8 0, .int .u8 0, .int .u8 0, .int .u8 0, .int .u8 0, .int .u8 0, .int .u8 0, .int .u8 0] 56)).alloc (.cells #[.int .u8 0, .int .u8 0, .int .u8 0, .int .u8 0, .int .u8 0, .int .u8 0, .int .u8 0, .int .u8 0, .int .u8 0, .int .u8 0, .int .u8 0, .int .u8 0, .int .u8 0, .int .u8 0, .int .u8 0, .int .u8 0, .int .u8 0, .int .u8 0, .int .u8 0, .int .u8 0, .int .u8 0, .int .u8 0, .int .u8 0, .int .u8 0, .int .u8 0, .int .u8 0] 56)).heap.size _)
  obtain ⟨hA2, _, _, _, _⟩ := box2 (Below.refl ((w.alloc (.cells (cc t x p k).toArray 31)).alloc (.cells #[.int .u8 0, .int .u8 0, .int .u8 0, .int .u8 0, .int .u8 0, .int .u8 0, .int .u8 0, .int .u8 0, .int .u8 0, .int .u8 0, .int .u8 0, .int .u8 0, .int .u8 0, .int .u8 0, .int .u8 0, .int .u8 0, .int .u8 0, .int .u8 0, .int .u8 0, .int .u8 0, .int .u8 0, .int .u8 0, .int .u8 0, .int .u8 0, .int .u8 0, .int .u8 0] 56)).heap.size _)
  have HA1 := hid hA2.ccT
  have HA2 := hid hA2.ccX
  have HA := hid hA
  have HR : Hid (Blk _ (w.heap.size + 1) 56 (hc 0 (zb 16) (zb 8) 0).toArray) := hR
  have HN : Hid (Blk _ (w.heap.size + 1 + 1) 56 (hc 0 (zb 16) (zb 8) 0).toArray) := hN
  have HBW := hid hbw
  have HL16 := hid (show (b8s t).length = 16 by simp [ht])
  have HC := hid (cc_cells (k := k) ht hx hp)
  clear hA hA2 hR hN hbw ht hx hp
  have HF1 := hid (show (k = 2 ∨ k = 3) → keepF k = 1 from fun h => if_pos h)
  have HF0 := hid (show ¬ (k = 2 ∨ k = 3) → keepF k = 0 from fun h => if_neg h)
  by_cases h2 : k = 2
  · have q2 : (k == 2) = true := by simpa using h2
    have HF := hid (HF1.out (.inl h2))
    clear h2 HF1 HF0
    go_enter Tryz.func21, Tryz.ntmps21
    go_wp2_with (first
      | (refine wpList_load_seg rfl 27 (.tmp 4) rfl w.heap.size 0 16 _ [] _ t rfl HA1.out rfl Tryz.underlying27 info_trace HT.out ?_)
      | (refine wpList_load_seg rfl 29 (.tmp 6) rfl w.heap.size 16 8 _ (b8s t) _ x rfl HA2.out HL16.out Tryz.underlying29 info_span HX.out ?_)
      | (refine wpList_build2 rfl 56 1 2 (.tmp 5) (.tmp 7) rfl (Av t) (Av x) _ rfl rfl (built_rnames t x HT.out HX.out) ?_; change wpList _ _ _ _ (Act.put _ _ (Hv 0 t x 0)) _)
      | (refine wpList_store_hv rfl 56 (.tmp 3) (.tmp 8) rfl (w.heap.size + 1 + 1) _ 0 0 0 0 t x (zb 16) (zb 8) rfl rfl HN.out info_rhdr HT.out HX.out (zb_length _) (zb_length _) ?_; intro w3 hw3 hN3
         have HN3 := hid hN3
         have HA3 : Hid (Blk w3 w.heap.size 31 (cc t x p k).toArray) := by rw [hw3]; exact setRow_far HA.out (by omega)
         have HR3 : Hid (Blk w3 (w.heap.size + 1) 56 (hc 0 (zb 16) (zb 8) 0).toArray) := by rw [hw3]; exact setRow_far HR.out (by omega)
         have HBW3 : Hid (Below w.heap.size w w3) := by rw [hw3]; exact setRow_below HBW.out (by omega) _
         have c32 : w3.cell? ⟨w.heap.size, 32, none⟩ = some (.int .i64 k) := (HA3.out.cell 32).trans HC.out
         have f25 : w3.frozen? ⟨w.heap.size + 1 + 1, 25, none⟩ = false := HN3.out.frozen 25
         have d25 : w3.cell? ⟨w.heap.size + 1 + 1, 25, none⟩ = some (.int .u8 0) := (HN3.out.cell 25).trans (hc_cells HT.out HX.out).2
         have HN4 : Hid (Blk (w3.setCell ⟨w.heap.size + 1 + 1, 25, none⟩ (.int .u8 1)) (w.heap.size + 1 + 1) 56 (hc 0 t x 1).toArray) := HN3.out.setF HT.out HX.out 1
         have HR4 : Hid (Blk (w3.setCell ⟨w.heap.size + 1 + 1, 25, none⟩ (.int .u8 1)) (w.heap.size + 1) 56 (hc 0 (zb 16) (zb 8) 0).toArray) := HR3.out.far (show w.heap.size + 1 ≠ w.heap.size + 1 + 1 by omega) _
         have HBW4 : Hid (Below w.heap.size w (w3.setCell ⟨w.heap.size + 1 + 1, 25, none⟩ (.int .u8 1))) := below_cellAt HBW3.out (show w.heap.size ≤ w.heap.size + 1 + 1 by omega) _ _
         clear hw3 hN3)
      | (refine wpList_load_hv rfl 56 (.tmp 3) rfl (w.heap.size + 1 + 1) _ _ 0 1 t x rfl HN4.out Tryz.underlying56 rfl info_rhdr HT.out HX.out ?_)
      | (refine wpList_store_hv rfl 56 (.tmp 2) (.tmp 18) rfl (w.heap.size + 1) _ 0 1 0 0 t x (zb 16) (zb 8) rfl rfl HR4.out info_rhdr HT.out HX.out (zb_length _) (zb_length _) ?_; intro w5 hw5 hR5; have HR5 := hid hR5; have HW5 := hid hw5; clear hw5 hR5))
    exact bodyPost_ret (results_hv1 rfl _ _ _ _ _ 0 1 t x rfl HR5.out Tryz.underlying56 rfl info_rhdr HT.out HX.out) rfl ⟨by rw [HF.out], by rw [HW5.out]; exact setRow_below HBW4.out (Nat.le_succ _) _⟩
  by_cases h3 : k = 3
  · have q2 : (k == 2) = false := by simpa using h2
    have q3 : (k == 3) = true := by simpa using h3
    have HF := hid (HF1.out (.inr h3))
    clear h2 h3 HF1 HF0
    go_enter Tryz.func21, Tryz.ntmps21
    go_wp2_with (first
      | (refine wpList_load_seg rfl 27 (.tmp 4) rfl w.heap.size 0 16 _ [] _ t rfl HA1.out rfl Tryz.underlying27 info_trace HT.out ?_)
      | (refine wpList_load_seg rfl 29 (.tmp 6) rfl w.heap.size 16 8 _ (b8s t) _ x rfl HA2.out HL16.out Tryz.underlying29 info_span HX.out ?_)
      | (refine wpList_build2 rfl 56 1 2 (.tmp 5) (.tmp 7) rfl (Av t) (Av x) _ rfl rfl (built_rnames t x HT.out HX.out) ?_; change wpList _ _ _ _ (Act.put _ _ (Hv 0 t x 0)) _)
      | (refine wpList_store_hv rfl 56 (.tmp 3) (.tmp 8) rfl (w.heap.size + 1 + 1) _ 0 0 0 0 t x (zb 16) (zb 8) rfl rfl HN.out info_rhdr HT.out HX.out (zb_length _) (zb_length _) ?_; intro w3 hw3 hN3
         have HN3 := hid hN3
         have HA3 : Hid (Blk w3 w.heap.size 31 (cc t x p k).toArray) := by rw [hw3]; exact setRow_far HA.out (by omega)
         have HR3 : Hid (Blk w3 (w.heap.size + 1) 56 (hc 0 (zb 16) (zb 8) 0).toArray) := by rw [hw3]; exact setRow_far HR.out (by omega)
         have HBW3 : Hid (Below w.heap.size w w3) := by rw [hw3]; exact setRow_below HBW.out (by omega) _
         have c32 : w3.cell? ⟨w.heap.size, 32, none⟩ = some (.int .i64 k) := (HA3.out.cell 32).trans HC.out
         have f25 : w3.frozen? ⟨w.heap.size + 1 + 1, 25, none⟩ = false := HN3.out.frozen 25
         have d25 : w3.cell? ⟨w.heap.size + 1 + 1, 25, none⟩ = some (.int .u8 0) := (HN3.out.cell 25).trans (hc_cells HT.out HX.out).2
         have HN4 : Hid (Blk (w3.setCell ⟨w.heap.size + 1 + 1, 25, none⟩ (.int .u8 1)) (w.heap.size + 1 + 1) 56 (hc 0 t x 1).toArray) := HN3.out.setF HT.out HX.out 1
         have HR4 : Hid (Blk (w3.setCell ⟨w.heap.size + 1 + 1, 25, none⟩ (.int .u8 1)) (w.heap.size + 1) 56 (hc 0 (zb 16) (zb 8) 0).toArray) := HR3.out.far (show w.heap.size + 1 ≠ w.heap.size + 1 + 1 by omega) _
         have HBW4 : Hid (Below w.heap.size w (w3.setCell ⟨w.heap.size + 1 + 1, 25, none⟩ (.int .u8 1))) := below_cellAt HBW3.out (show w.heap.size ≤ w.heap.size + 1 + 1 by omega) _ _
         clear hw3 hN3)
      | (refine wpList_load_hv rfl 56 (.tmp 3) rfl (w.heap.size + 1 + 1) _ _ 0 1 t x rfl HN4.out Tryz.underlying56 rfl info_rhdr HT.out HX.out ?_)
      | (refine wpList_store_hv rfl 56 (.tmp 2) (.tmp 18) rfl (w.heap.size + 1) _ 0 1 0 0 t x (zb 16) (zb 8) rfl rfl HR4.out info_rhdr HT.out HX.out (zb_length _) (zb_length _) ?_; intro w5 hw5 hR5; have HR5 := hid hR5; have HW5 := hid hw5; clear hw5 hR5))
    exact bodyPost_ret (results_hv1 rfl _ _ _ _ _ 0 1 t x rfl HR5.out Tryz.underlying56 rfl info_rhdr HT.out HX.out) rfl ⟨by rw [HF.out], by rw [HW5.out]; exact setRow_below HBW4.out (Nat.le_succ _) _⟩
  · have q2 : (k == 2) = false := by simpa using h2
    have q3 : (k == 3) = false := by simpa using h3
    have HF := hid (HF0.out (by omega))
    clear h2 h3 HF1 HF0
    go_enter Tryz.func21, Tryz.ntmps21
    go_wp2_with (first
      | (refine wpList_load_seg rfl 27 (.tmp 4) rfl w.heap.size 0 16 _ [] _ t rfl HA1.out rfl Tryz.underlying27 info_trace HT.out ?_)
      | (refine wpList_load_seg rfl 29 (.tmp 6) rfl w.heap.size 16 8 _ (b8s t) _ x rfl HA2.out HL16.out Tryz.underlying29 info_span HX.out ?_)
      | (refine wpList_build2 rfl 56 1 2 (.tmp 5) (.tmp 7) rfl (Av t) (Av x) _ rfl rfl (built_rnames t x HT.out HX.out) ?_; change wpList _ _ _ _ (Act.put _ _ (Hv 0 t x 0)) _)
      | (refine wpList_store_hv rfl 56 (.tmp 3) (.tmp 8) rfl (w.heap.size + 1 + 1) _ 0 0 0 0 t x (zb 16) (zb 8) rfl rfl HN.out info_rhdr HT.out HX.out (zb_length _) (zb_length _) ?_; intro w3 hw3 hN3
         have HN3 := hid hN3
         have HA3 : Hid (Blk w3 w.heap.size 31 (cc t x p k).toArray) := by rw [hw3]; exact setRow_far HA.out (by omega)
         have HR3 : Hid (Blk w3 (w.heap.size + 1) 56 (hc 0 (zb 16) (zb 8) 0).toArray) := by rw [hw3]; exact setRow_far HR.out (by omega)
         have HBW3 : Hid (Below w.heap.size w w3) := by rw [hw3]; exact setRow_below HBW.out (by omega) _
         have c32 : w3.cell? ⟨w.heap.size, 32, none⟩ = some (.int .i64 k) := (HA3.out.cell 32).trans HC.out
         have HN4 := HN3
         have HR4 := HR3
         have HBW4 := HBW3
         clear hw3 hN3)
      | (refine wpList_load_hv rfl 56 (.tmp 3) rfl (w.heap.size + 1 + 1) _ _ 0 0 t x rfl HN4.out Tryz.underlying56 rfl info_rhdr HT.out HX.out ?_)
      | (refine wpList_store_hv rfl 56 (.tmp 2) (.tmp 18) rfl (w.heap.size + 1) _ 0 0 0 0 t x (zb 16) (zb 8) rfl rfl HR4.out info_rhdr HT.out HX.out (zb_length _) (zb_length _) ?_; intro w5 hw5 hR5; have HR5 := hid hR5; have HW5 := hid hw5; clear hw5 hR5))
    exact bodyPost_ret (results_hv1 rfl _ _ _ _ _ 0 0 t x rfl HR5.out Tryz.underlying56 rfl info_rhdr HT.out HX.out) rfl ⟨by rw [HF.out], by rw [HW5.out]; exact setRow_below HBW4.out (Nat.le_succ _) _⟩

set_option maxRecDepth 100000 in
set_option maxHeartbeats 1000000 in
theorem pctx_any (v f : Int) (t x : List UInt8) (w : World) (ht : t.length = 16) (hx : x.length = 8) (f0 : 0 ≤ f) (f1 : f ≤ 255) :
    Calls Tryz.prog 59 #[Hv v t x f] w fun e w' => e = .returned (Cv t x (zb 8) (1 + f % 2)) ∧ Below w.heap.size w w' := by
  have HT := hid ht
  have HX := hid hx
  obtain ⟨hA, hR, hN, _, _, _, hbw⟩ := box3 (Below.refl (((w.alloc (.cells (hc v t x f).toArray 84)).alloc (.cells #[.int .u8 0, .int .u8 0, .int .u8 0, .int .u8 0, .int .u8 0, .int .u8 0, .int .u8 0, .int .u8 0, .int .u8 0, .int .u8 0, .int .u8 0, .int .u8 0, .int .u8 0, .int .u8 0, .int .u8 0, .int .u8 0, .int .u8 0, .int .u8 0, .int .u8 0, .int .u8 0, .int .u8 0, .int .u8 0, .int .u8 0, .int .u8 0, .int .u8 0, .int .u8 0, .int .u8 0, .int .u8 0, .int .u8 0, .int .u8 0, .int .u8 0, .int .u8 0, .int .i64 0] 31)).alloc (.cells #[.int .u8 0, .int .u8 0, .int .u8 0, .int .u8 0, .int .u8 0, .int .u8 0, .int .u8 0, .int .u8 0, .int .u8 0, .int .u8 0, .int .u8 0, .int .u8 0, .int .u8 0, .int .u8 0, .int .u8 0, .int .u8 0, .int .u8 0, .int .u8 0, .int .u8 0, .int .u8 0, .int .u8 0, .int .u8 0, .int .u8 0, .int .u8 0, .int .u8 0, .int .u8 0, .int .u8 0, .int .u8 0, .int .u8 0, .int .u8 0, .int .u8 0, .int .u8 0, .int .i64 0] 31)).heap.size _)
  obtain ⟨hA2, _, _, _, _⟩ := box2 (Below.refl ((w.alloc (.cells (hc v t x f).toArray 84)).alloc (.cells #[.int .u8 0, .int .u8 0, .int .u8 0, .int .u8 0, .int .u8 0, .int .u8 0, .int .u8 0, .int .u8 0, .int .u8 0, .int .u8 0, .int .u8 0, .int .u8 0, .int .u8 0, .int .u8 0, .int .u8 0, .int .u8 0, .int .u8 0, .int .u8 0, .int .u8 0, .int .u8 0, .int .u8 0, .int .u8 0, .int .u8 0, .int .u8 0, .int .u8 0, .int .u8 0, .int .u8 0, .int .u8 0, .int .u8 0, .int .u8 0, .int .u8 0, .int .u8 0, .int .i64 0] 31)).heap.size _)
  have HA1 := hid hA2.hcT
  have HA2 := hid hA2.hcX
  have HA := hid hA
  have HR : Hid (Blk _ (w.heap.size + 1) 31 (cc (zb 16) (zb 8) (zb 8) 0).toArray) := hR
  have HN : Hid (Blk _ (w.heap.size + 1 + 1) 31 (cc (zb 16) (zb 8) (zb 8) 0).toArray) := hN
  have HBW := hid hbw
  have HL17 := hid (show ([Value.int .u8 v] ++ b8s t).length = 17 by simp [ht])
  have HC := hid (hc_cells (v := v) (f := f) ht hx).2
  have hand := u8_and1 f f0 f1
  clear hA hA2 hR hN hbw ht hx
  by_cases h1 : f % 2 = 0
  · have HF := hid (show 1 + f % 2 = 1 by omega)
    rw [h1] at hand
    clear h1
    go_enter Tryz.func59, Tryz.ntmps59
    go_wp2_with (first
      | (refine wpList_load_seg rfl 27 (.tmp 4) rfl w.heap.size 1 16 _ _ _ t rfl HA1.out rfl Tryz.underlying27 info_trace HT.out ?_)
      | (refine wpList_load_seg rfl 29 (.tmp 6) rfl w.heap.size 17 8 _ _ _ x rfl HA2.out HL17.out Tryz.underlying29 info_span HX.out ?_)
      | (refine wpList_build3 rfl 31 0 1 3 (.tmp 5) (.tmp 7) (.const (.int .i64 1)) rfl (Av t) (Av x) (.int .i64 1) _ rfl rfl rfl (built_ctx 1 t x HT.out HX.out) ?_; change wpList _ _ _ _ (Act.put _ _ (Cv t x (zb 8) 1)) _)
      | (refine wpList_store_cv rfl 31 (.tmp 3) (.tmp 8) rfl (w.heap.size + 1 + 1) _ 1 0 t x (zb 8) (zb 16) (zb 8) (zb 8) rfl rfl HN.out info_ctx HT.out HX.out (zb_length _) (zb_length _) (zb_length _) (zb_length _) ?_; intro w3 hw3 hN3
         have HN3 := hid hN3
         have HA3 : Hid (Blk w3 w.heap.size 84 (hc v t x f).toArray) := by rw [hw3]; exact setRow_far HA.out (by omega)
         have HR3 : Hid (Blk w3 (w.heap.size + 1) 31 (cc (zb 16) (zb 8) (zb 8) 0).toArray) := by rw [hw3]; exact setRow_far HR.out (by omega)
         have HBW3 : Hid (Below w.heap.size w w3) := by rw [hw3]; exact setRow_below HBW.out (by omega) _
         have c25 : w3.cell? ⟨w.heap.size, 25, none⟩ = some (.int .u8 f) := (HA3.out.cell 25).trans HC.out
         have HN4 := HN3
         have HR4 := HR3
         have HBW4 := HBW3
         clear hw3 hN3)
      | (refine wpList_load_cv rfl 31 (.tmp 3) rfl (w.heap.size + 1 + 1) _ _ 1 t x (zb 8) rfl HN4.out Tryz.underlying31 rfl info_ctx HT.out HX.out (zb_length _) ?_)
      | (refine wpList_store_cv rfl 31 (.tmp 2) (.tmp 14) rfl (w.heap.size + 1) _ 1 0 t x (zb 8) (zb 16) (zb 8) (zb 8) rfl rfl HR4.out info_ctx HT.out HX.out (zb_length _) (zb_length _) (zb_length _) (zb_length _) ?_; intro w5 hw5 hR5; have HR5 := hid hR5; have HW5 := hid hw5; clear hw5 hR5))
    exact bodyPost_ret (results_cv1 rfl _ _ _ _ _ 1 t x (zb 8) rfl HR5.out Tryz.underlying31 rfl info_ctx HT.out HX.out (zb_length _)) rfl ⟨by rw [HF.out], by rw [HW5.out]; exact setRow_below HBW4.out (Nat.le_succ _) _⟩
  · have HF := hid (show 1 + f % 2 = 2 by omega)
    rw [show f % 2 = 1 by omega] at hand
    clear h1
    go_enter Tryz.func59, Tryz.ntmps59
    go_wp2_with (first
      | (refine wpList_load_seg rfl 27 (.tmp 4) rfl w.heap.size 1 16 _ _ _ t rfl HA1.out rfl Tryz.underlying27 info_trace HT.out ?_)
      | (refine wpList_load_seg rfl 29 (.tmp 6) rfl w.heap.size 17 8 _ _ _ x rfl HA2.out HL17.out Tryz.underlying29 info_span HX.out ?_)
      | (refine wpList_build3 rfl 31 0 1 3 (.tmp 5) (.tmp 7) (.const (.int .i64 1)) rfl (Av t) (Av x) (.int .i64 1) _ rfl rfl rfl (built_ctx 1 t x HT.out HX.out) ?_; change wpList _ _ _ _ (Act.put _ _ (Cv t x (zb 8) 1)) _)
      | (refine wpList_store_cv rfl 31 (.tmp 3) (.tmp 8) rfl (w.heap.size + 1 + 1) _ 1 0 t x (zb 8) (zb 16) (zb 8) (zb 8) rfl rfl HN.out info_ctx HT.out HX.out (zb_length _) (zb_length _) (zb_length _) (zb_length _) ?_; intro w3 hw3 hN3
         have HN3 := hid hN3
         have HA3 : Hid (Blk w3 w.heap.size 84 (hc v t x f).toArray) := by rw [hw3]; exact setRow_far HA.out (by omega)
         have HR3 : Hid (Blk w3 (w.heap.size + 1) 31 (cc (zb 16) (zb 8) (zb 8) 0).toArray) := by rw [hw3]; exact setRow_far HR.out (by omega)
         have HBW3 : Hid (Below w.heap.size w w3) := by rw [hw3]; exact setRow_below HBW.out (by omega) _
         have c25 : w3.cell? ⟨w.heap.size, 25, none⟩ = some (.int .u8 f) := (HA3.out.cell 25).trans HC.out
         have f32 : w3.frozen? ⟨w.heap.size + 1 + 1, 32, none⟩ = false := HN3.out.frozen 32
         have d32 : w3.cell? ⟨w.heap.size + 1 + 1, 32, none⟩ = some (.int .i64 1) := (HN3.out.cell 32).trans (cc_cells HT.out HX.out (zb_length _))
         have HN4 : Hid (Blk (w3.setCell ⟨w.heap.size + 1 + 1, 32, none⟩ (.int .i64 2)) (w.heap.size + 1 + 1) 31 (cc t x (zb 8) 2).toArray) := HN3.out.setK HT.out HX.out (zb_length _) 2
         have HR4 : Hid (Blk (w3.setCell ⟨w.heap.size + 1 + 1, 32, none⟩ (.int .i64 2)) (w.heap.size + 1) 31 (cc (zb 16) (zb 8) (zb 8) 0).toArray) := HR3.out.far (show w.heap.size + 1 ≠ w.heap.size + 1 + 1 by omega) _
         have HBW4 : Hid (Below w.heap.size w (w3.setCell ⟨w.heap.size + 1 + 1, 32, none⟩ (.int .i64 2))) := below_cellAt HBW3.out (show w.heap.size ≤ w.heap.size + 1 + 1 by omega) _ _
         clear hw3 hN3)
      | (refine wpList_load_cv rfl 31 (.tmp 3) rfl (w.heap.size + 1 + 1) _ _ 2 t x (zb 8) rfl HN4.out Tryz.underlying31 rfl info_ctx HT.out HX.out (zb_length _) ?_)
      | (refine wpList_store_cv rfl 31 (.tmp 2) (.tmp 14) rfl (w.heap.size + 1) _ 2 0 t x (zb 8) (zb 16) (zb 8) (zb 8) rfl rfl HR4.out info_ctx HT.out HX.out (zb_length _) (zb_length _) (zb_length _) (zb_length _) ?_; intro w5 hw5 hR5; have HR5 := hid hR5; have HW5 := hid hw5; clear hw5 hR5))
    exact bodyPost_ret (results_cv1 rfl _ _ _ _ _ 2 t x (zb 8) rfl HR5.out Tryz.underlying31 rfl info_ctx HT.out HX.out (zb_length _)) rfl ⟨by rw [HF.out], by rw [HW5.out]; exact setRow_below HBW4.out (Nat.le_succ _) _⟩

set_option maxRecDepth 100000 in
set_option maxHeartbeats 1000000 in
theorem rctx_any (v f : Int) (t x : List UInt8) (w : World) (ht : t.length = 16) (hx : x.length = 8) (f0 : 0 ≤ f) (f1 : f ≤ 255) :
    Calls Tryz.prog 30 #[Hv v t x f] w fun e w' => e = .returned (Cv t x (zb 8) (1 + f % 2)) ∧ Below w.heap.size w w' := by
  have HT := hid ht
  have HX := hid hx
  obtain ⟨hA, hR, _, _, hbw⟩ := box2 (Below.refl ((w.alloc (.cells (hc v t x f).toArray 56)).alloc (.cells #[.int .u8 0, .int .u8 0, .int .u8 0, .int .u8 0, .int .u8 0, .int .u8 0, .int .u8 0, .int .u8 0, .int .u8 0, .int .u8 0, .int .u8 0, .int .u8 0, .int .u8 0, .int .u8 0, .int .u8 0, .int .u8 0, .int .u8 0, .int .u8 0, .int .u8 0, .int .u8 0, .int .u8 0, .int .u8 0, .int .u8 0, .int .u8 0, .int .u8 0, .int .u8 0, .int .u8 0, .int .u8 0, .int .u8 0, .int .u8 0, .int .u8 0, .int .u8 0, .int .i64 0] 31)).heap.size _)
  have HA1 := hid hA.hcT
  have HA2 := hid hA.hcX
  have c25 := (hA.cell 25).trans (hc_cells (v := v) (f := f) ht hx).2
  have HR : Hid (Blk _ (w.heap.size + 1) 31 (cc (zb 16) (zb 8) (zb 8) 0).toArray) := hR
  have HBW := hid hbw
  have HL17 := hid (show ([Value.int .u8 v] ++ b8s t).length = 17 by simp [ht])
  clear hA hR hbw ht hx
  go_enter Tryz.func30, Tryz.ntmps30
  go_wp2_with (first
      | (refine wpList_load_seg rfl 27 (.tmp 3) rfl w.heap.size 1 16 _ _ _ t rfl HA1.out rfl Tryz.underlying27 info_trace HT.out ?_)
      | (refine wpList_load_seg rfl 29 (.tmp 5) rfl w.heap.size 17 8 _ _ _ x rfl HA2.out HL17.out Tryz.underlying29 info_span HX.out ?_)
      | (refine wpList_build3 rfl 31 0 1 3 (.tmp 4) (.tmp 6) (.tmp 11) rfl (Av t) (Av x) (.int .i64 (1 + f % 2)) _ rfl rfl rfl (built_ctx (1 + f % 2) t x HT.out HX.out) ?_; change wpList _ _ _ _ (Act.put _ _ (Cv t x (zb 8) (1 + f % 2))) _)
      | (refine wpList_store_cv rfl 31 (.tmp 2) (.tmp 12) rfl (w.heap.size + 1) _ (1 + f % 2) 0 t x (zb 8) (zb 16) (zb 8) (zb 8) rfl rfl HR.out info_ctx HT.out HX.out (zb_length _) (zb_length _) (zb_length _) (zb_length _) ?_; intro w5 hw5 hR5; have HR5 := hid hR5; have HW5 := hid hw5; clear hw5 hR5))
  exact bodyPost_ret (results_cv1 rfl _ _ _ _ _ (1 + f % 2) t x (zb 8) rfl HR5.out Tryz.underlying31 rfl info_ctx HT.out HX.out (zb_length _)) rfl ⟨rfl, by rw [HW5.out]; exact setRow_below HBW.out (Nat.le_succ _) _⟩
end Go.Proofs.YtgfdmdikiickpaaGreatDoor

/-! Ctx -/
namespace Go.Proofs.YtgfdmdikiickpaaGreatDoor
open Go.RowKit

set_option maxRecDepth 100000 in
theorem fields_ctx : (Tryz.prog.fieldsOf 31).toList.map (fun f => (f.name == "_", f.type, f.offset)) = [(false, 27, 0), (false, 29, 16), (false, 29, 24), (false, 3, 32)] := by kernel_rfl
set_option maxRecDepth 100000 in
theorem und_ctx : Tryz.prog.underlying 31 = some (.struct (Tryz.prog.fieldsOf 31)) := by kernel_rfl
set_option maxRecDepth 100000 in
theorem held_ctx : Tryz.prog.stoodInHeld 31 = false := by kernel_rfl
theorem run_equalIn_cv (w : World) (d : Nat) (k k' : Int) (t s p t' s' p' : List UInt8) (ht : t.length = 16) (hs : s.length = 8) (hp : p.length = 8) (ht' : t'.length = 16) (hs' : s'.length = 8) (hp' : p'.length = 8) :
    (Op.equalIn (d + 3) 31 (Cv t s p k) (Cv t' s' p' k')).run Tryz.prog w = .ok (t == t' && (s == s' && (p == p' && (k == k' && true)))) w := by
  unfold Cv
  rw [run_equalIn_struct w (d + 2) 31 _ _ und_ctx held_ctx]
  have hf := fields_ctx
  revert hf
  generalize (Tryz.prog.fieldsOf 31).toList = fs
  intro hf
  have hlen : fs.length = 4 := by have := congrArg List.length hf; simpa using this
  match fs, hlen with
  | [f0, f1, f2, f3], _ =>
    simp only [List.map_cons, List.map_nil, List.cons.injEq, Prod.mk.injEq, and_true] at hf
    obtain ⟨⟨n0, t0, o0⟩, ⟨n1, t1, o1⟩, ⟨n2, t2, o2⟩, ⟨n3, t3, o3⟩⟩ := hf
    have c3 := cc_cells (k := k) ht hs hp
    have c3' := cc_cells (k := k') ht' hs' hp'
    refine run_eqFields_cons w _ _ _ f0 _ (Av t) (Av t') _ _ (by simpa using n0) (by rw [t0, o0, cc_trace]; exact run_part_seg w _ 16 0 _ _ t Tryz.underlying27 info_trace rfl ht) (by rw [t0, o0, cc_trace]; exact run_part_seg w _ 16 0 _ _ t' Tryz.underlying27 info_trace rfl ht') (by rw [t0]; exact run_equalIn_av w _ _ 16 Tryz.underlying27 t t' ht ht') ?_
    refine run_eqFields_cons w _ _ _ f1 _ (Av s) (Av s') _ _ (by simpa using n1) (by rw [t1, o1, cc_span]; exact run_part_seg w _ 8 16 _ _ s Tryz.underlying29 info_span (by simp [ht]) hs) (by rw [t1, o1, cc_span]; exact run_part_seg w _ 8 16 _ _ s' Tryz.underlying29 info_span (by simp [ht']) hs') (by rw [t1]; exact run_equalIn_av w _ _ 8 Tryz.underlying29 s s' hs hs') ?_
    refine run_eqFields_cons w _ _ _ f2 _ (Av p) (Av p') _ _ (by simpa using n2) (by rw [t2, o2, cc_parent]; exact run_part_seg w _ 8 24 _ _ p Tryz.underlying29 info_span (by simp [ht, hs]) hp) (by rw [t2, o2, cc_parent]; exact run_part_seg w _ 8 24 _ _ p' Tryz.underlying29 info_span (by simp [ht', hs']) hp') (by rw [t2]; exact run_equalIn_av w _ _ 8 Tryz.underlying29 p p' hp hp') ?_
    refine run_eqFields_cons w _ _ _ f3 _ (.int .i64 k) (.int .i64 k') _ _ (by simpa using n3) (by rw [t3, o3]; exact run_part_one w _ _ _ _ _ Tryz.underlying3 c3) (by rw [t3, o3]; exact run_part_one w _ _ _ _ _ Tryz.underlying3 c3') (by rw [t3]; exact run_equalIn_int w _ _ .i64 .i64 k k' Tryz.underlying3) ?_
    simp [Op.eqFields]
def cvq (t s p : List UInt8) (k : Int) (t' s' p' : List UInt8) (k' : Int) : Bool := t == t' && (s == s' && (p == p' && (k == k' && true)))
theorem cvq_self (t s p : List UInt8) (k : Int) : cvq t s p k t s p k = true := by simp [cvq]
theorem run_eq_cv (w : World) (k k' : Int) (t s p t' s' p' : List UInt8) (ht : t.length = 16) (hs : s.length = 8) (hp : p.length = 8) (ht' : t'.length = 16) (hs' : s'.length = 8) (hp' : p'.length = 8) :
    (binOp .eql 31 (Cv t s p k) (Cv t' s' p' k')).run Tryz.prog w = .ok (.bool (cvq t s p k t' s' p' k')) w := by
  show (binOp .eql 31 (.agg _) (.agg _)).run Tryz.prog w = _
  rw [run_eql_struct]
  have := run_equalIn_cv w 9997 k k' t s p t' s' p' ht hs hp ht' hs' hp'
  unfold Cv at this
  rw [this]; rfl
theorem run_neq_cv (w : World) (k k' : Int) (t s p t' s' p' : List UInt8) (ht : t.length = 16) (hs : s.length = 8) (hp : p.length = 8) (ht' : t'.length = 16) (hs' : s'.length = 8) (hp' : p'.length = 8) :
    (binOp .neq 31 (Cv t s p k) (Cv t' s' p' k')).run Tryz.prog w = .ok (.bool (!(cvq t s p k t' s' p' k'))) w := by
  show (binOp .neq 31 (.agg _) (.agg _)).run Tryz.prog w = _
  rw [run_neq_struct]
  have := run_equalIn_cv w 9997 k k' t s p t' s' p' ht hs hp ht' hs' hp'
  unfold Cv at this
  rw [this]; rfl
@[go_sem] theorem run_eqGuard_cv (w : World) (op : BinOp) (x y : Operand) (t s p t' s' p' : List UInt8) (k k' : Int) : (eqGuard op 31 x y (Cv t s p k) (Cv t' s' p' k')).run Tryz.prog w = .ok () w := run_eqGuard_agg w op _ x y _ _ guard_ctx
theorem hvq_self (v f : Int) (t x : List UInt8) : hvq v t x f v t x f = true := by simp [hvq]
theorem rhvq_self (v f : Int) (t x : List UInt8) : rhvq v t x f v t x f = true := by simp [rhvq]
/-- Cells stored one by one in the midst of a block. -/
theorem Blk.cells {g : Nat} {T : TypeId} : ∀ (new pre mid post : List Value) {w : World}, Blk w g T (pre ++ (mid ++ post)).toArray → new.length = mid.length → Blk (w.setCells g pre.length new) g T (pre ++ (new ++ post)).toArray
  | [], pre, mid, post, w, h, hl => by
    obtain rfl : mid = [] := List.eq_nil_of_length_eq_zero (by simpa using hl.symm)
    exact h
  | v :: r, pre, [], post, w, h, hl => by simp at hl
  | v :: r, pre, m :: ms, post, w, h, hl => by
    have h1 := h.set_ pre.length v
    have e : ((pre ++ (m :: ms ++ post)).toArray.setIfInBounds pre.length v) = ((pre ++ [v]) ++ (ms ++ post)).toArray := by
      rw [List.setIfInBounds_toArray]
      congr 1
      rw [List.set_append_right _ _ (Nat.le_refl _)]
      simp
    rw [e] at h1
    have h2 := Blk.cells r (pre ++ [v]) ms post h1 (by simpa using hl)
    rw [List.length_append] at h2
    rw [World.setCells]
    simpa using h2
theorem below_setCells {B : Nat} {a : World} {g : Nat} (hg : B ≤ g) : ∀ (vs : List Value) (o : Nat) {w : World}, Below B a w → Below B a (w.setCells g o vs)
  | [], _, _, h => h
  | v :: r, o, w, h => by
    rw [World.setCells]
    exact below_setCells hg r (o + 1) (below_cellAt h hg o v)
theorem setCells_far {g g' : Nat} {T : TypeId} {cs : Array Value} (hne : g' ≠ g) : ∀ (vs : List Value) (o : Nat) {w : World}, Blk w g T cs → Blk (w.setCells g' o vs) g T cs
  | [], _, _, h => h
  | v :: r, o, w, h => by
    rw [World.setCells]
    have hne' : g ≠ (⟨g', o, none⟩ : Addr).block := Ne.symm hne
    exact setCells_far hne r (o + 1) (h.far hne' v)
theorem blk_there {w : World} {g : Nat} {T : TypeId} {pre mid post : List Value} (h : Blk w g T (pre ++ (mid ++ post)).toArray) : w.there g pre.length mid.length := by
  intro j hj
  refine ⟨?_, h.frozen _⟩
  rw [h.cell]
  have hlt : pre.length + j < (pre ++ (mid ++ post)).length := by simp; omega
  simp only [List.getElem?_toArray]
  rw [List.getElem?_eq_getElem hlt]; rfl
theorem wpList_store_seg {ops : Array Oper} {rest : List Oper} {o : Oper} {a : Act} {w : World} {Q : Exit → Act → World → Prop} (hgd : o.guard = none) (ty : TypeId) (x y : Operand) (ho : o.op = .store ty x y)
    (g off n : Nat) (T : TypeId) (pre post : List Value) (l l0 : List UInt8) (hx : a.eval x = .pointer (some ⟨g, off, none⟩)) (hy : a.eval y = Av l) (hb : Blk w g T (pre ++ (b8s l0 ++ post)).toArray) (hp : pre.length = off)
    (hi : (Tryz.prog.info? ty).map (·.size) = some n) (hl : l.length = n) (hl0 : l0.length = n)
    (h : ∀ w', w' = w.setCells g off (b8s l) → Blk w' g T (pre ++ (b8s l ++ post)).toArray → wpList Tryz.prog ops Q rest (a.put o.dst undef) w') : wpList Tryz.prog ops Q (o :: rest) a w := by
  subst hp
  refine wpList_store_mid hgd ty x y ho g pre.length (b8s l).toArray hx hy ?_ (by rw [hi]; simp [hl]) (b8s_all l) (h _ (by simp) (Blk.cells _ _ _ _ hb (by simp [hl, hl0])))
  have := blk_there hb
  simpa [hl, hl0] using this
theorem wpList_load_hvW {ops : Array Oper} {rest : List Oper} {o : Oper} {a : Act} {w : World} {Q : Exit → Act → World → Prop} (hgd : Region.wanted o (yielded ops a.tmps) = true) (ty : TypeId) (x : Operand) (ho : o.op = .load ty x)
    (g : Nat) (T : TypeId) (d : TypeDesc) (v f : Int) (t s : List UInt8) (hx : a.eval x = .pointer (some ⟨g, 0, none⟩)) (hb : Blk w g T (hc v t s f).toArray)
    (hu : Tryz.prog.underlying ty = some d) (hd : d.isRow = true) (hi : (Tryz.prog.info? ty).map (·.size) = some 26) (ht : t.length = 16) (hs : s.length = 8)
    (h : wpList Tryz.prog ops Q rest (a.put o.dst (Hv v t s f)) w) : wpList Tryz.prog ops Q (o :: rest) a w :=
  BigFrame.wpList_want hgd fun _ hK => wp_load_mid ty x ho g 0 hx (hc v t s f) d (fun j u hu => by rw [Nat.zero_add, hb.cell j, ← hu]; simp) hu hd (by rw [hi]; simp [hc, ht, hs]) (hK _ _ h)
theorem wpList_load_cvW {ops : Array Oper} {rest : List Oper} {o : Oper} {a : Act} {w : World} {Q : Exit → Act → World → Prop} (hgd : Region.wanted o (yielded ops a.tmps) = true) (ty : TypeId) (x : Operand) (ho : o.op = .load ty x)
    (g : Nat) (T : TypeId) (d : TypeDesc) (k : Int) (t s p : List UInt8) (hx : a.eval x = .pointer (some ⟨g, 0, none⟩)) (hb : Blk w g T (cc t s p k).toArray)
    (hu : Tryz.prog.underlying ty = some d) (hd : d.isRow = true) (hi : (Tryz.prog.info? ty).map (·.size) = some 33) (ht : t.length = 16) (hs : s.length = 8) (hp : p.length = 8)
    (h : wpList Tryz.prog ops Q rest (a.put o.dst (Cv t s p k)) w) : wpList Tryz.prog ops Q (o :: rest) a w :=
  BigFrame.wpList_want hgd fun _ hK => wp_load_mid ty x ho g 0 hx (cc t s p k) d (fun j u hu => by rw [Nat.zero_add, hb.cell j, ← hu]; simp) hu hd (by rw [hi]; simp [cc, ht, hs, hp]) (hK _ _ h)
theorem wpList_buildW {ops : Array Oper} {rest : List Oper} {o : Oper} {a : Act} {w : World} {Q : Exit → Act → World → Prop} (hgd : Region.wanted o (yielded ops a.tmps) = true) (ty : TypeId) (parts : Array (Nat × Operand)) (ho : o.op = .build ty parts)
    (vs : List (Nat × Value)) (cells : Array Value) (hv : (parts.map fun (i, x) => (i, a.eval x)).toList = vs) (hb : Tryz.prog.built ty vs = some cells)
    (h : wpList Tryz.prog ops Q rest (a.put o.dst (.agg cells)) w) : wpList Tryz.prog ops Q (o :: rest) a w := by
  refine BigFrame.wpList_want hgd fun _ hK => ?_
  refine wp_build ty parts ho (by rw [hv, hb]; rfl) (hK _ _ ?_)
  rw [hv, hb]; exact h
set_option maxRecDepth 100000 in
theorem built_zspan : Tryz.prog.built 29 [] = some (b8s (zb 8)).toArray := by kernel_rfl
theorem field_at {T : TypeId} {i ty off : Nat} (h : ((Tryz.prog.fieldsOf T).toList.map (fun f => (f.name == "_", f.type, f.offset)))[i]? = some (false, ty, off)) : ∃ f, (Tryz.prog.fieldsOf T)[i]? = some f ∧ f.type = ty ∧ f.offset = off := by
  rw [List.getElem?_map, Array.getElem?_toList] at h
  cases hf : (Tryz.prog.fieldsOf T)[i]? with
  | none => rw [hf] at h; cases h
  | some f =>
    rw [hf] at h
    simp only [Option.map_some, Option.some.injEq, Prod.mk.injEq] at h
    exact ⟨f, rfl, h.2.1, h.2.2⟩
theorem run_field_keep (w : World) (t s p : List UInt8) (k : Int) (ht : t.length = 16) (hs : s.length = 8) (hp : p.length = 8) : (Instr.field 31 (Cv t s p k) 3).run Tryz.prog w = .ok (.int .i64 k) w := by
  obtain ⟨f, hf, h1, h2⟩ := field_at (T := 31) (i := 3) (ty := 3) (off := 32) (by rw [fields_ctx]; rfl)
  have hp := run_part_one w 3 .i64 (cc t s p k).toArray 32 (.int .i64 k) Tryz.underlying3 (cc_cells ht hs hp)
  simp [Instr.field, run_underlying und_ctx, hf, h1, h2, Cv, asAgg, hp, Result.andThen]
theorem run_field_flags (w : World) (t s : List UInt8) (v f : Int) (ht : t.length = 16) (hs : s.length = 8) : (Instr.field 84 (Hv v t s f) 3).run Tryz.prog w = .ok (.int .u8 f) w := by
  obtain ⟨g, hf, h1, h2⟩ := field_at (T := 84) (i := 3) (ty := 5) (off := 25) (by rw [fields_hdr]; rfl)
  have hp := run_part_one w 5 .u8 (hc v t s f).toArray 25 (.int .u8 f) Tryz.underlying5 (hc_cells ht hs).2
  simp [Instr.field, run_underlying und_hdr, hf, h1, h2, Hv, asAgg, hp, Result.andThen]
set_option maxRecDepth 100000 in
theorem built_hzero : Tryz.prog.built 84 [] = some (hc 0 (zb 16) (zb 8) 0).toArray := by kernel_rfl
set_option maxRecDepth 100000 in
theorem built_ckeep : Tryz.prog.built 31 [(3, .int .i64 3)] = some (cc (zb 16) (zb 8) (zb 8) 3).toArray := by kernel_rfl
theorem new_hv (w : World) (T : TypeId) : Blk (w.alloc (.cells #[.int .u8 0, .int .u8 0, .int .u8 0, .int .u8 0, .int .u8 0, .int .u8 0, .int .u8 0, .int .u8 0, .int .u8 0, .int .u8 0, .int .u8 0, .int .u8 0, .int .u8 0, .int .u8 0, .int .u8 0, .int .u8 0, .int .u8 0, .int .u8 0, .int .u8 0, .int .u8 0, .int .u8 0, .int .u8 0, .int .u8 0, .int .u8 0, .int .u8 0, .int .u8 0] T)) w.heap.size T (hc 0 (zb 16) (zb 8) 0).toArray := Blk.new w T _
theorem new_cv (w : World) (T : TypeId) : Blk (w.alloc (.cells #[.int .u8 0, .int .u8 0, .int .u8 0, .int .u8 0, .int .u8 0, .int .u8 0, .int .u8 0, .int .u8 0, .int .u8 0, .int .u8 0, .int .u8 0, .int .u8 0, .int .u8 0, .int .u8 0, .int .u8 0, .int .u8 0, .int .u8 0, .int .u8 0, .int .u8 0, .int .u8 0, .int .u8 0, .int .u8 0, .int .u8 0, .int .u8 0, .int .u8 0, .int .u8 0, .int .u8 0, .int .u8 0, .int .u8 0, .int .u8 0, .int .u8 0, .int .u8 0, .int .i64 0] T)) w.heap.size T (cc (zb 16) (zb 8) (zb 8) 0).toArray := Blk.new w T _
theorem stored_new {w wn : World} {T : TypeId} {cs0 cs : Array Value} (h : wn = (w.alloc (.cells cs0 T)).setRow w.heap.size cs) : Below w.heap.size w wn := by
  subst h; exact setRow_below (ext_alloc _ _) (Nat.le_refl _) _
end Go.Proofs.YtgfdmdikiickpaaGreatDoor

/-! Frm -/
namespace Go.Proofs.YtgfdmdikiickpaaGreatDoor
open Go.RowKit

abbrev Bk := Nat × TypeId × Array Value
structure Frm (w0 w : World) (L : List Bk) : Prop where
  bel : Below w0.heap.size w0 w
  at_ : ∀ (i : Nat) b, L[i]? = some b → Blk w b.1 b.2.1 b.2.2
  hi : ∀ (i : Nat) b, L[i]? = some b → w0.heap.size ≤ b.1
  ne : ∀ (i j : Nat) b c, L[i]? = some b → L[j]? = some c → i ≠ j → b.1 ≠ c.1
theorem Frm.start (w : World) : Frm w w [] := ⟨Below.refl _ _, fun _ _ h => by simp at h, fun _ _ h => by simp at h, fun _ _ _ _ h => by simp at h⟩
theorem Frm.of {w0 w : World} (h : Below w0.heap.size w0 w) : Frm w0 w [] := ⟨h, fun _ _ h => by simp at h, fun _ _ h => by simp at h, fun _ _ _ _ h => by simp at h⟩
theorem snoc_get {L : List Bk} {c b : Bk} {i : Nat} (h : (L ++ [c])[i]? = some b) : L[i]? = some b ∧ i < L.length ∨ i = L.length ∧ b = c := by
  rcases Nat.lt_or_ge i L.length with q | q
  · rw [List.getElem?_append_left q] at h; exact .inl ⟨h, q⟩
  · rw [List.getElem?_append_right q] at h
    rcases Nat.eq_or_lt_of_le q with e | e
    · rw [← e, Nat.sub_self] at h
      exact .inr ⟨e.symm, (Option.some.inj h).symm⟩
    · rw [List.getElem?_eq_none (by simp; omega)] at h; cases h
theorem Frm.new {w0 w : World} {L : List Bk} (h : Frm w0 w L) (T : TypeId) (cs : Array Value) {n : Nat} (hn : w.heap.size = n) : Frm w0 (w.alloc (.cells cs T)) (L ++ [(n, T, cs)]) := by
  subst hn
  refine ⟨h.bel.alloc h.bel.size _, fun i b hb => ?_, fun i b hb => ?_, fun i j b c hb hc hij => ?_⟩
  · rcases snoc_get hb with ⟨q, _⟩ | ⟨_, rfl⟩
    · exact (h.at_ i b q).alloc _
    · exact Blk.new w T cs
  · rcases snoc_get hb with ⟨q, _⟩ | ⟨_, rfl⟩
    · exact h.hi i b q
    · exact h.bel.size
  · rcases snoc_get hb with ⟨q, q'⟩ | ⟨q, rfl⟩ <;> rcases snoc_get hc with ⟨r, r'⟩ | ⟨r, rfl⟩
    · exact h.ne i j b c q r hij
    · exact Nat.ne_of_lt (h.at_ i b q).lt
    · exact Nat.ne_of_gt (h.at_ j c r).lt
    · omega
theorem Frm.call {w0 w w' : World} {L : List Bk} (h : Frm w0 w L) (hb : Below w.heap.size w w') : Frm w0 w' L :=
  ⟨h.bel.trans (hb.mono h.bel.size), fun i b q => (h.at_ i b q).below hb (h.at_ i b q).lt, h.hi, h.ne⟩
theorem Frm.drewN {w0 w : World} {L : List Bk} (h : Frm w0 w L) (n : Nat) : Frm w0 (w.drewN n) L := h.call (ext_drewN w n)
theorem Frm.drew {w0 w : World} {L : List Bk} (h : Frm w0 w L) : Frm w0 w.drew L := h.call (ext_drew w)
theorem Frm.get {w0 w : World} {L : List Bk} (h : Frm w0 w L) (i : Nat) {g : Nat} {T : TypeId} {cs : Array Value} (hi : L[i]? = some (g, T, cs)) : Blk w g T cs := h.at_ i _ hi
theorem Frm.cell {w0 w : World} {L : List Bk} (h : Frm w0 w L) (i : Nat) {g : Nat} {T : TypeId} {cs : Array Value} (hi : L[i]? = some (g, T, cs)) (k : Nat) {v : Value} (hk : cs[k]? = some v) : w.cell? ⟨g, k, none⟩ = some v :=
  ((h.get i hi).cell k).trans hk
theorem Frm.upd {w0 w w' : World} {L : List Bk} (h : Frm w0 w L) (i : Nat) {g : Nat} {T : TypeId} {cs cs' : Array Value} (hi : L[i]? = some (g, T, cs)) (hb : Below w0.heap.size w0 w') (hn : Blk w' g T cs') (ho : ∀ {g' T' c'}, g' ≠ g → Blk w g' T' c' → Blk w' g' T' c') :
    Frm w0 w' (L.set i (g, T, cs')) := by
  have hlt : i < L.length := by
    rcases Nat.lt_or_ge i L.length with q | q
    · exact q
    · rw [List.getElem?_eq_none q] at hi; cases hi
  have key : ∀ (j : Nat) b, (L.set i (g, T, cs'))[j]? = some b → (j = i ∧ b = (g, T, cs')) ∨ (j ≠ i ∧ L[j]? = some b) := by
    intro j b hb
    by_cases e : j = i
    · subst e
      rw [List.getElem?_set_self hlt] at hb
      exact .inl ⟨rfl, (Option.some.inj hb).symm⟩
    · rw [List.getElem?_set_ne (fun q => e q.symm)] at hb
      exact .inr ⟨e, hb⟩
  have fst : ∀ (j : Nat) b, (L.set i (g, T, cs'))[j]? = some b → ∃ c, L[j]? = some c ∧ c.1 = b.1 := by
    intro j b hb
    rcases key j b hb with ⟨rfl, rfl⟩ | ⟨_, q⟩
    · exact ⟨_, hi, rfl⟩
    · exact ⟨_, q, rfl⟩
  refine ⟨hb, fun j b q => ?_, fun j b q => ?_, fun j k b c q r hjk => ?_⟩
  · rcases key j b q with ⟨rfl, rfl⟩ | ⟨e, q'⟩
    · exact hn
    · exact ho (h.ne j i b _ q' hi e) (h.at_ j b q')
  · obtain ⟨c, hc, e⟩ := fst j b q
    rw [← e]; exact h.hi j c hc
  · obtain ⟨b', hb', e1⟩ := fst j b q
    obtain ⟨c', hc', e2⟩ := fst k c r
    rw [← e1, ← e2]
    exact h.ne j k b' c' hb' hc' hjk
theorem Frm.setRow {w0 w : World} {L : List Bk} (h : Frm w0 w L) (i : Nat) {g : Nat} {T : TypeId} {cs : Array Value} (hi : L[i]? = some (g, T, cs)) (cs' : Array Value) : Frm w0 (w.setRow g cs') (L.set i (g, T, cs')) :=
  h.upd i hi (setRow_below h.bel (h.hi i _ hi) _) (setRow_blk (h.get i hi) _) (fun hne q => setRow_far q (Ne.symm hne))
theorem Frm.setCell {w0 w : World} {L : List Bk} (h : Frm w0 w L) (i : Nat) {g : Nat} {T : TypeId} {cs : Array Value} (hi : L[i]? = some (g, T, cs)) (k : Nat) (v : Value) : Frm w0 (w.setCell ⟨g, k, none⟩ v) (L.set i (g, T, cs.setIfInBounds k v)) :=
  h.upd i hi (below_cellAt h.bel (h.hi i _ hi) k v) ((h.get i hi).set_ k v) (fun hne q => q.far (p := ⟨g, k, none⟩) hne v)
theorem Frm.setSeg {w0 w : World} {L : List Bk} (h : Frm w0 w L) (i : Nat) {g : Nat} {T : TypeId} {pre mid post : List Value} (hi : L[i]? = some (g, T, (pre ++ (mid ++ post)).toArray)) (new : List Value) (hl : new.length = mid.length) :
    Frm w0 (w.setCells g pre.length new) (L.set i (g, T, (pre ++ (new ++ post)).toArray)) :=
  h.upd i hi (below_setCells (h.hi i _ hi) new _ h.bel) (Blk.cells new pre mid post (h.get i hi) hl) (fun hne q => setCells_far (Ne.symm hne) new _ q)
/-! Loads. -/
def Okc (t x p : List UInt8) : Prop := t.length = 16 ∧ x.length = 8 ∧ p.length = 8
theorem Frm.loadCv {w0 w : World} {L : List Bk} (h : Frm w0 w L) (i : Nat) {g : Nat} {T : TypeId} {t x p : List UInt8} {k : Int} (hi : L[i]? = some (g, T, (cc t x p k).toArray)) (hl : Okc t x p) : (Instr.loadAt 31 (.pointer (some ⟨g, 0, none⟩))).run Tryz.prog w = .ok (Cv t x p k) w :=
  run_loadAt_mid w g 0 31 (cc t x p k) _ (fun j u hu => by rw [Nat.zero_add, (h.get i hi).cell j, ← hu]; simp) Tryz.underlying31 rfl (by rw [info_ctx]; simp [cc, hl.1, hl.2.1, hl.2.2])
theorem Frm.loadT {w0 w : World} {L : List Bk} (h : Frm w0 w L) (i : Nat) {g : Nat} {T : TypeId} {t x p : List UInt8} {k : Int} (hi : L[i]? = some (g, T, (cc t x p k).toArray)) (hl : Okc t x p) : (Instr.loadAt 27 (.pointer (some ⟨g, 0, none⟩))).run Tryz.prog w = .ok (Av t) w :=
  run_loadAt_seg (n := 16) (h.get i hi).ccT rfl Tryz.underlying27 info_trace hl.1
theorem Frm.loadX {w0 w : World} {L : List Bk} (h : Frm w0 w L) (i : Nat) {g : Nat} {T : TypeId} {t x p : List UInt8} {k : Int} (hi : L[i]? = some (g, T, (cc t x p k).toArray)) (hl : Okc t x p) : (Instr.loadAt 29 (.pointer (some ⟨g, 16, none⟩))).run Tryz.prog w = .ok (Av x) w :=
  run_loadAt_seg (n := 8) (h.get i hi).ccX (by simp [hl.1]) Tryz.underlying29 info_span hl.2.1
theorem Frm.loadP {w0 w : World} {L : List Bk} (h : Frm w0 w L) (i : Nat) {g : Nat} {T : TypeId} {t x p : List UInt8} {k : Int} (hi : L[i]? = some (g, T, (cc t x p k).toArray)) (hl : Okc t x p) : (Instr.loadAt 29 (.pointer (some ⟨g, 24, none⟩))).run Tryz.prog w = .ok (Av p) w :=
  run_loadAt_seg (n := 8) (h.get i hi).ccP (by simp [hl.1, hl.2.1]) Tryz.underlying29 info_span hl.2.2
theorem Frm.cellK {w0 w : World} {L : List Bk} (h : Frm w0 w L) (i : Nat) {g : Nat} {T : TypeId} {t x p : List UInt8} {k : Int} (hi : L[i]? = some (g, T, (cc t x p k).toArray)) (hl : Okc t x p) : w.cell? ⟨g, 32, none⟩ = some (.int .i64 k) :=
  h.cell i hi 32 (cc_cells hl.1 hl.2.1 hl.2.2)
theorem Frm.loadK {w0 w : World} {L : List Bk} (h : Frm w0 w L) (i : Nat) {g : Nat} {T : TypeId} {t x p : List UInt8} {k : Int} (hi : L[i]? = some (g, T, (cc t x p k).toArray)) (hl : Okc t x p) : (Instr.loadAt 3 (.pointer (some ⟨g, 32, none⟩))).run Tryz.prog w = .ok (.int .i64 k) w := by
  have hcell := h.cellK i hi hl
  go_simp
theorem Frm.loadA {w0 w : World} {L : List Bk} (h : Frm w0 w L) (i : Nat) {g : Nat} {T ty : TypeId} {l : List UInt8} {n : Nat} (hi : L[i]? = some (g, T, (b8s l).toArray)) (hl : l.length = n) (hty : Tryz.prog.underlying ty = some (.array n 5)) (hn : (Tryz.prog.info? ty).map (·.size) = some n) : (Instr.loadAt ty (.pointer (some ⟨g, 0, none⟩))).run Tryz.prog w = .ok (Av l) w :=
  run_loadAt_mid w g 0 ty (b8s l) _ (fun j u hu => by rw [Nat.zero_add, (h.get i hi).cell j, ← hu]; simp) hty rfl (by rw [hn]; simp [hl])
theorem Frm.load16 {w0 w : World} {L : List Bk} (h : Frm w0 w L) (i : Nat) {g : Nat} {T : TypeId} {l : List UInt8} (hi : L[i]? = some (g, T, (b8s l).toArray)) (hl : l.length = 16) : (Instr.loadAt 27 (.pointer (some ⟨g, 0, none⟩))).run Tryz.prog w = .ok (Av l) w := h.loadA i hi hl Tryz.underlying27 info_trace
theorem Frm.load8 {w0 w : World} {L : List Bk} (h : Frm w0 w L) (i : Nat) {g : Nat} {T : TypeId} {l : List UInt8} (hi : L[i]? = some (g, T, (b8s l).toArray)) (hl : l.length = 8) : (Instr.loadAt 29 (.pointer (some ⟨g, 0, none⟩))).run Tryz.prog w = .ok (Av l) w := h.loadA i hi hl Tryz.underlying29 info_span
/-- Guards: cheap looks ahead of an arm. -/
theorem at_load {ops : Array Oper} {rest : List Oper} {o : Oper} {a : Act} {w : World} {Q : Exit → Act → World → Prop} (ty : TypeId) (_ : (match o.op with | .load t _ => decide (t = ty) | _ => false) = true) (h : wpList Tryz.prog ops Q (o :: rest) a w) : wpList Tryz.prog ops Q (o :: rest) a w := h
theorem at_store {ops : Array Oper} {rest : List Oper} {o : Oper} {a : Act} {w : World} {Q : Exit → Act → World → Prop} (ty : TypeId) (_ : (match o.op with | .store t _ _ => decide (t = ty) | _ => false) = true) (h : wpList Tryz.prog ops Q (o :: rest) a w) : wpList Tryz.prog ops Q (o :: rest) a w := h
theorem at_build {ops : Array Oper} {rest : List Oper} {o : Oper} {a : Act} {w : World} {Q : Exit → Act → World → Prop} (ty : TypeId) (_ : (match o.op with | .build t _ => decide (t = ty) | _ => false) = true) (h : wpList Tryz.prog ops Q (o :: rest) a w) : wpList Tryz.prog ops Q (o :: rest) a w := h
/-- A load whose run is known, as a step. -/
theorem wpList_loadE {ops : Array Oper} {rest : List Oper} {o : Oper} {a : Act} {w : World} {Q : Exit → Act → World → Prop} {ty : TypeId} {x : Operand} {u v : Value} (hgd : o.guard = none) (ho : o.op = .load ty x) (hl : (Instr.loadAt ty u).run Tryz.prog w = .ok v w) (hx : a.eval x = u)
    (h : wpList Tryz.prog ops Q rest (a.put o.dst v) w) : wpList Tryz.prog ops Q (o :: rest) a w :=
  wpList_plain hgd fun _ hK => by
    unfold Oper.wp
    simp only [execOp, ho, hx, hl, Sem.run_bind, Sem.run_pure, Result.andThen_ok]
    exact hK _ _ h
theorem wpList_loadW {ops : Array Oper} {rest : List Oper} {o : Oper} {a : Act} {w : World} {Q : Exit → Act → World → Prop} {ty : TypeId} {x : Operand} {u v : Value} (hgd : Region.wanted o (yielded ops a.tmps) = true) (ho : o.op = .load ty x) (hl : (Instr.loadAt ty u).run Tryz.prog w = .ok v w) (hx : a.eval x = u)
    (h : wpList Tryz.prog ops Q rest (a.put o.dst v) w) : wpList Tryz.prog ops Q (o :: rest) a w :=
  BigFrame.wpList_want hgd fun _ hK => by
    unfold Oper.wp
    simp only [execOp, ho, hx, hl, Sem.run_bind, Sem.run_pure, Result.andThen_ok]
    exact hK _ _ h
/-! Stores. -/
theorem wpList_putCv {ops : Array Oper} {rest : List Oper} {o : Oper} {a : Act} {w w0 : World} {Q : Exit → Act → World → Prop} {L : List Bk} (h : Frm w0 w L) (i : Nat) {g : Nat} {T : TypeId} {t x p t0 x0 p0 : List UInt8} {k k0 : Int} {y z : Operand} (hgd : o.guard = none) (ho : o.op = .store 31 y z)
    (hi : L[i]? = some (g, T, (cc t0 x0 p0 k0).toArray)) (hl0 : Okc t0 x0 p0) (hl : Okc t x p) (hx : a.eval y = .pointer (some ⟨g, 0, none⟩)) (hy : a.eval z = Cv t x p k)
    (hn : ∀ w', Frm w0 w' (L.set i (g, T, (cc t x p k).toArray)) → wpList Tryz.prog ops Q rest (a.put o.dst undef) w') : wpList Tryz.prog ops Q (o :: rest) a w :=
  wpList_store_cv hgd _ y z ho g T k k0 t x p t0 x0 p0 hx hy (h.get i hi) info_ctx hl.1 hl.2.1 hl.2.2 hl0.1 hl0.2.1 hl0.2.2 (fun w' hw _ => hn w' (by rw [hw]; exact h.setRow i hi _))
theorem step_putCv {ops : Array Oper} {o : Oper} {a : Act} {w w0 : World} {K : Act → World → Prop} {Q : Exit → Act → World → Prop} {E : Prop} {L : List Bk} (h : Frm w0 w L) (i : Nat) {g : Nat} {T : TypeId} {t x p t0 x0 p0 : List UInt8} {k k0 : Int} {y z : Operand} (hgd : o.guard = none) (ho : o.op = .store 31 y z)
    (hi : L[i]? = some (g, T, (cc t0 x0 p0 k0).toArray)) (hl0 : Okc t0 x0 p0) (hl : Okc t x p) (hx : a.eval y = .pointer (some ⟨g, 0, none⟩)) (hy : a.eval z = Cv t x p k)
    (hn : ∀ w', Frm w0 w' (L.set i (g, T, (cc t x p k).toArray)) → K (a.put o.dst undef) w') : if Region.wanted o (yielded ops a.tmps) = true then Oper.wp Tryz.prog o a w K Q else E := by
  have hw : Region.wanted o (yielded ops a.tmps) = true := by simp [Region.wanted, hgd]
  rw [if_pos hw]
  exact wp_store_row _ y z ho g _ hx hy T _ (h.get i hi) (by rw [info_ctx]; simp [cc, hl.1, hl.2.1, hl.2.2]) (by simp [cc, hl.1, hl.2.1, hl.2.2, hl0.1, hl0.2.1, hl0.2.2]) (cc_one k t x p) (hn _ (h.setRow i hi _))
theorem wpList_putA {ops : Array Oper} {rest : List Oper} {o : Oper} {a : Act} {w w0 : World} {Q : Exit → Act → World → Prop} {L : List Bk} (h : Frm w0 w L) (i : Nat) {g n : Nat} {T ty : TypeId} {l l0 : List UInt8} {y z : Operand} (hgd : o.guard = none) (ho : o.op = .store ty y z)
    (hi : L[i]? = some (g, T, (b8s l0).toArray)) (hn : (Tryz.prog.info? ty).map (·.size) = some n) (hl0 : l0.length = n) (hl : l.length = n) (hx : a.eval y = .pointer (some ⟨g, 0, none⟩)) (hy : a.eval z = Av l)
    (hk : ∀ w', Frm w0 w' (L.set i (g, T, (b8s l).toArray)) → wpList Tryz.prog ops Q rest (a.put o.dst undef) w') : wpList Tryz.prog ops Q (o :: rest) a w :=
  wpList_store_av hgd _ y z ho g n l l0 T hx hy (h.get i hi) hn hl hl0 (fun w' hw _ => hk w' (by rw [hw]; exact h.setRow i hi _))
theorem wpList_put16 {ops : Array Oper} {rest : List Oper} {o : Oper} {a : Act} {w w0 : World} {Q : Exit → Act → World → Prop} {L : List Bk} (h : Frm w0 w L) (i : Nat) {g : Nat} {T : TypeId} {l l0 : List UInt8} {y z : Operand} (hgd : o.guard = none) (ho : o.op = .store 27 y z)
    (hi : L[i]? = some (g, T, (b8s l0).toArray)) (hl0 : l0.length = 16) (hl : l.length = 16) (hx : a.eval y = .pointer (some ⟨g, 0, none⟩)) (hy : a.eval z = Av l)
    (hk : ∀ w', Frm w0 w' (L.set i (g, T, (b8s l).toArray)) → wpList Tryz.prog ops Q rest (a.put o.dst undef) w') : wpList Tryz.prog ops Q (o :: rest) a w := wpList_putA h i hgd ho hi info_trace hl0 hl hx hy hk
theorem wpList_put8 {ops : Array Oper} {rest : List Oper} {o : Oper} {a : Act} {w w0 : World} {Q : Exit → Act → World → Prop} {L : List Bk} (h : Frm w0 w L) (i : Nat) {g : Nat} {T : TypeId} {l l0 : List UInt8} {y z : Operand} (hgd : o.guard = none) (ho : o.op = .store 29 y z)
    (hi : L[i]? = some (g, T, (b8s l0).toArray)) (hl0 : l0.length = 8) (hl : l.length = 8) (hx : a.eval y = .pointer (some ⟨g, 0, none⟩)) (hy : a.eval z = Av l)
    (hk : ∀ w', Frm w0 w' (L.set i (g, T, (b8s l).toArray)) → wpList Tryz.prog ops Q rest (a.put o.dst undef) w') : wpList Tryz.prog ops Q (o :: rest) a w := wpList_putA h i hgd ho hi info_span hl0 hl hx hy hk
theorem wpList_putP {ops : Array Oper} {rest : List Oper} {o : Oper} {a : Act} {w w0 : World} {Q : Exit → Act → World → Prop} {L : List Bk} (h : Frm w0 w L) (i : Nat) {g : Nat} {T : TypeId} {t x p q : List UInt8} {k : Int} {y z : Operand} (hgd : o.guard = none) (ho : o.op = .store 29 y z)
    (hi : L[i]? = some (g, T, (cc t x p k).toArray)) (hl : Okc t x p) (hq : q.length = 8) (hx : a.eval y = .pointer (some ⟨g, 24, none⟩)) (hy : a.eval z = Av q)
    (hn : ∀ w', Frm w0 w' (L.set i (g, T, (cc t x q k).toArray)) → wpList Tryz.prog ops Q rest (a.put o.dst undef) w') : wpList Tryz.prog ops Q (o :: rest) a w := by
  have hpre : (b8s t ++ b8s x).length = 24 := by simp [hl.1, hl.2.1]
  refine wpList_store_seg hgd _ y z ho g 24 8 T (b8s t ++ b8s x) [.int .i64 k] q p hx hy (h.get i hi).ccP hpre info_span hq hl.2.2 (fun w' hw _ => hn w' ?_)
  have := h.setSeg i (pre := b8s t ++ b8s x) (mid := b8s p) (post := [.int .i64 k]) (by rw [← cc_parent]; exact hi) (b8s q) (by simp [hq, hl.2.2])
  rw [hpre, ← cc_parent, ← hw] at this
  exact this
theorem run_storeAt_one {w : World} {g k : Nat} {T ty : TypeId} {cs : Array Value} {v : Value} (hb : Blk w g T cs) (hk : k < cs.size) (h1 : v.oneCell' = true) (hc : v.cells = #[v]) (hs : (Tryz.prog.info? ty).map (·.size) = some 1) :
    (Instr.storeAt ty (.pointer (some ⟨g, k, none⟩)) v).run Tryz.prog w = .ok () (w.setCell ⟨g, k, none⟩ v) := by
  cases hq : Tryz.prog.info? ty with
  | none => simp [hq] at hs
  | some i =>
    have hs : i.size = 1 := by simpa [hq] using hs
    have hcell : w.cell? ⟨g, k, none⟩ = cs[k]? := hb.cell k
    have hfro := hb.frozen k
    have hcs : cs[k]? = some cs[k] := Array.getElem?_eq_getElem hk
    rw [hcs] at hcell
    simp [Instr.storeAt, Instr.sureAddr, storeVar, sizeOf, typeInfo, hq, hs, hc, storeCells, run_store, h1, Addr.add, hcell, hfro]
theorem wpList_putC {ops : Array Oper} {rest : List Oper} {o : Oper} {a : Act} {w w0 : World} {Q : Exit → Act → World → Prop} {L : List Bk} (h : Frm w0 w L) (i : Nat) {g k : Nat} {T ty : TypeId} {cs : Array Value} {v : Value} {y z : Operand} (hgd : o.guard = none) (ho : o.op = .store ty y z)
    (hi : L[i]? = some (g, T, cs)) (hx : a.eval y = .pointer (some ⟨g, k, none⟩)) (hy : a.eval z = v) (hk : k < cs.size) (h1 : v.oneCell' = true) (hc : v.cells = #[v]) (hs : (Tryz.prog.info? ty).map (·.size) = some 1)
    (hn : ∀ w', Frm w0 w' (L.set i (g, T, cs.setIfInBounds k v)) → wpList Tryz.prog ops Q rest (a.put o.dst undef) w') : wpList Tryz.prog ops Q (o :: rest) a w :=
  wpList_plain hgd fun _ hK => by
    unfold Oper.wp
    simp only [execOp, ho, hx, hy, run_storeAt_one (h.get i hi) hk h1 hc hs, Sem.run_bind, Sem.run_pure, Result.andThen_ok]
    exact hK _ _ (hn _ (h.setCell i hi k v))
theorem info_int : (Tryz.prog.info? 3).map (·.size) = some 1 := by kernel_rfl
theorem info_str : (Tryz.prog.info? 9).map (·.size) = some 1 := by kernel_rfl
theorem wpList_putK {ops : Array Oper} {rest : List Oper} {o : Oper} {a : Act} {w w0 : World} {Q : Exit → Act → World → Prop} {L : List Bk} (h : Frm w0 w L) (i : Nat) {g : Nat} {T : TypeId} {t x p : List UInt8} {k m : Int} {y z : Operand} (hgd : o.guard = none) (ho : o.op = .store 3 y z)
    (hi : L[i]? = some (g, T, (cc t x p k).toArray)) (hl : Okc t x p) (hx : a.eval y = .pointer (some ⟨g, 32, none⟩)) (hy : a.eval z = .int .i64 m)
    (hn : ∀ w', Frm w0 w' (L.set i (g, T, (cc t x p m).toArray)) → wpList Tryz.prog ops Q rest (a.put o.dst undef) w') : wpList Tryz.prog ops Q (o :: rest) a w :=
  wpList_putC h i hgd ho hi hx hy (by simp [cc, hl.1, hl.2.1, hl.2.2]) rfl rfl info_int (fun w' hw => hn w' (by rw [← cc_keep hl.1 hl.2.1 hl.2.2]; exact hw))
theorem results_cv2 {fn : Func} {q r : Tmp} {ty : TypeId} (h : fn.results = #[.cell q ty, .tmp r]) (tmps : Array Value) (w : World) (g : Nat) (T : TypeId) (d : TypeDesc) (k : Int) (t s p : List UInt8)
    (hq : tmps.getD q undef = .pointer (some ⟨g, 0, none⟩)) (hb : Blk w g T (cc t s p k).toArray) (hu : Tryz.prog.underlying ty = some d) (hd : d.isRow = true) (hi : (Tryz.prog.info? ty).map (·.size) = some 33) (hl : Okc t s p) :
    (results fn tmps).run Tryz.prog w = .ok (.tuple #[Cv t s p k, tmps.getD r undef]) w := by
  have hp' : tmps[q]?.getD undef = .pointer (some ⟨g, 0, none⟩) := by simpa using hq
  have hl := run_loadVar_mid (P := Tryz.prog) w g 0 ty (cc t s p k) d (fun j u hu => by rw [Nat.zero_add, hb.cell j, ← hu]; simp) hu hd (by rw [hi]; simp [cc, hl.1, hl.2.1, hl.2.2])
  simp [results, h, hp', asAddr, hl, Cv]
theorem okc_zero : Okc (zb 16) (zb 8) (zb 8) := ⟨zb_length 16, zb_length 8, zb_length 8⟩
theorem zero_cc : (#[.int .u8 0, .int .u8 0, .int .u8 0, .int .u8 0, .int .u8 0, .int .u8 0, .int .u8 0, .int .u8 0, .int .u8 0, .int .u8 0, .int .u8 0, .int .u8 0, .int .u8 0, .int .u8 0, .int .u8 0, .int .u8 0, .int .u8 0, .int .u8 0, .int .u8 0, .int .u8 0, .int .u8 0, .int .u8 0, .int .u8 0, .int .u8 0, .int .u8 0, .int .u8 0, .int .u8 0, .int .u8 0, .int .u8 0, .int .u8 0, .int .u8 0, .int .u8 0, .int .i64 0] : Array Value) = (cc (zb 16) (zb 8) (zb 8) 0).toArray := rfl
theorem Frm.new0 {w0 w : World} {L : List Bk} (h : Frm w0 w L) (T : TypeId) {n : Nat} (hn : w.heap.size = n) : Frm w0 (w.alloc (.cells #[.int .u8 0, .int .u8 0, .int .u8 0, .int .u8 0, .int .u8 0, .int .u8 0, .int .u8 0, .int .u8 0, .int .u8 0, .int .u8 0, .int .u8 0, .int .u8 0, .int .u8 0, .int .u8 0, .int .u8 0, .int .u8 0, .int .u8 0, .int .u8 0, .int .u8 0, .int .u8 0, .int .u8 0, .int .u8 0, .int .u8 0, .int .u8 0, .int .u8 0, .int .u8 0, .int .u8 0, .int .u8 0, .int .u8 0, .int .u8 0, .int .u8 0, .int .u8 0, .int .i64 0] T)) (L ++ [(n, T, (cc (zb 16) (zb 8) (zb 8) 0).toArray)]) := h.new T _ hn
end Go.Proofs.YtgfdmdikiickpaaGreatDoor

/-! Zero -/
namespace Go.Proofs.YtgfdmdikiickpaaGreatDoor
open Go.RowKit

theorem valL_zero : ∀ l : List UInt8, valL l = 0 ↔ l = zb l.length
  | [] => by simp [valL, zb]
  | x :: l => by
    have hx := bi_lt x
    have hn := valL_nonneg l
    have ih := valL_zero l
    have e : zb (l.length + 1) = 0 :: zb l.length := rfl
    rw [List.length_cons, e, List.cons.injEq, ← ih]
    show bi x + 256 * valL l = 0 ↔ _
    constructor
    · intro h
      have h1 : bi x = 0 := by omega
      exact ⟨bi_inj (by rw [h1]; rfl), by omega⟩
    · rintro ⟨rfl, h2⟩
      rw [h2]; rfl
theorem valH_zero (l : List UInt8) : valH l = 0 ↔ l = zb l.length := by
  unfold valH
  rw [valL_zero, List.length_reverse]
  constructor
  · intro h
    have := congrArg List.reverse h
    rw [List.reverse_reverse] at this
    rw [this]; simp [zb]
  · intro h
    rw [h]; simp [zb]
theorem zb_add (m n : Nat) : zb (m + n) = zb m ++ zb n := by simp [zb, List.replicate_append_replicate]
theorem tr_zero (t : List UInt8) (ht : t.length = 16) : (t == zb 16) = (decide (valH (t.take 8) = 0) && decide (valH (t.drop 8) = 0)) := by
  rw [Bool.eq_iff_iff]
  simp only [beq_iff_eq, Bool.and_eq_true, decide_eq_true_eq, valH_zero]
  have l1 : (t.take 8).length = 8 := by simp [ht]
  have l2 : (t.drop 8).length = 8 := by simp [ht]
  rw [l1, l2]
  constructor
  · rintro rfl; exact ⟨rfl, rfl⟩
  · rintro ⟨h1, h2⟩
    rw [← List.take_append_drop 8 t, h1, h2]; rfl
theorem sp_zero (x : List UInt8) (hx : x.length = 8) : (x == zb 8) = decide (valH x = 0) := by
  rw [Bool.eq_iff_iff]
  simp only [beq_iff_eq, decide_eq_true_eq, valH_zero, hx]
end Go.Proofs.YtgfdmdikiickpaaGreatDoor
