/-
  Walks of package parent: May, Text, Of, Context.
-/
import Derived.Test.YtdjbgojdkaipfaaHdr
import Derived.Test.YtdjbgojdkaipfaaIdent
import Derived.Test.YtdjbgojdkaipfaaBits
import Derived.Test.YtdjbgojdkaipfaaToken
import Derived.Deep.RegionHeld3
namespace Go.Proofs.Ytdjbgojdkaipfaa
open Go.RowKit

def mayB (t x : List UInt8) : Bool := !(t == zb 16) && !(x == zb 8)
theorem hvq_same (v f : Int) (t x : List UInt8) : hvq v t x f v (zb 16) (zb 8) f = ((t == zb 16) && (x == zb 8)) := by
  simp [hvq]
set_option maxRecDepth 100000 in
set_option maxHeartbeats 1000000 in
theorem pmay_any (v f : Int) (t x : List UInt8) (w : World) (ht : t.length = 16) (hx : x.length = 8) :
    Calls Try.prog 46 #[Hv v t x f] w fun e w' => e = .returned (.bool (mayB t x)) ∧ Below w.heap.size w w' := by
  have HT := hid ht
  have HX := hid hx
  have HB := hid (Blk.new w 58 (hc v t x f).toArray)
  have HB1 : Hid (Blk (w.alloc (.cells (hc v t x f).toArray 58)) w.heap.size 58 ([Value.int .u8 v] ++ (b8s t ++ (b8s x ++ [Value.int .u8 f]))).toArray) := by rw [← hc_trace]; exact Blk.new w _ _
  have HB2 : Hid (Blk (w.alloc (.cells (hc v t x f).toArray 58)) w.heap.size 58 (([Value.int .u8 v] ++ b8s t) ++ (b8s x ++ [Value.int .u8 f])).toArray) := by rw [← hc_span]; exact Blk.new w _ _
  obtain ⟨c0, c25⟩ := hc_cells (v := v) (f := f) ht hx
  have d0 : (w.alloc (.cells (hc v t x f).toArray 58)).cell? ⟨w.heap.size, 0, none⟩ = some (.int .u8 v) := (Blk.cell (Blk.new w _ _) 0).trans c0
  have d25 : (w.alloc (.cells (hc v t x f).toArray 58)).cell? ⟨w.heap.size, 25, none⟩ = some (.int .u8 f) := (Blk.cell (Blk.new w _ _) 25).trans c25
  have eq0 := fun u => run_neq_hv u v f v f t x (zb 16) (zb 8) ht hx (zb_length _) (zb_length _)
  rw [hvq_same] at eq0
  have eq1 := fun u => run_neq_z16 u t ht
  have eq2 := fun u => run_neq_z8 u x hx
  have l17 : ([Value.int .u8 v] ++ b8s t).length = 17 := by simp [ht]
  have HL17 := hid l17
  clear ht hx c0 c25 l17
  have HM := hid (show mayB t x = (!(t == zb 16) && !(x == zb 8)) from rfl)
  cases ha : (t == zb 16) <;> cases hb : (x == zb 8)
  all_goals
    rw [ha, hb] at eq0 HM
    rw [ha] at eq1
    rw [hb] at eq2
    simp only [Bool.true_and, Bool.and_true, Bool.false_and, Bool.and_false, Bool.not_false, Bool.not_true] at eq0 eq1 eq2 HM
    go_enter Try.func46, Try.ntmps46
    go_wp2_with (first
      | (refine wpList_load_hv rfl 58 (.tmp 1) rfl w.heap.size _ _ v f t x rfl HB.out Try.underlying58 rfl info_hdr HT.out HX.out ?_)
      | (refine wpList_build2 rfl 58 0 3 (.tmp 5) (.tmp 7) rfl (.int .u8 v) (.int .u8 f) _ rfl rfl (built_ends v f) ?_; change wpList _ _ _ _ (Act.put _ _ (Hv v (zb 16) (zb 8) f)) _)
      | (refine wpList_load_segW rfl 39 (.tmp 11) rfl w.heap.size 1 16 _ _ _ t rfl HB1.out rfl Try.underlying39 info_trace HT.out ?_)
      | (refine wpList_load_segW rfl 41 (.tmp 17) rfl w.heap.size 17 8 _ _ _ x rfl HB2.out HL17.out Try.underlying41 info_span HX.out ?_))
    go_ret
    exact ⟨by rw [HM.out]; rfl, ext_alloc _ _⟩
structure Th (w : World) (g : Nat) (T : TypeId) (v f : Int) (t s : List UInt8) (x : Value) (u : World) : Prop where
  h : Blk u g T (hc v t s f).toArray
  tok : Bs u u.heap.size x [bt f]
  bel : Below w.heap.size w u
theorem Th.ext {w u u' : World} {g : Nat} {T : TypeId} {v f : Int} {t s : List UInt8} {x : Value} (k : Th w g T v f t s x u) (hb : Below u.heap.size u u') : Th w g T v f t s x u' :=
  ⟨k.h.below hb k.h.lt, (k.tok.below hb).more hb.size, k.bel.trans (hb.mono k.bel.size)⟩
theorem Th.call {w u : World} {g : Nat} {T : TypeId} {v f : Int} {t s : List UInt8} {x : Value} (k : Th w g T v f t s x u) {fn : FuncId} {args : Array Value} {r : Value} (hc : Calls Try.prog fn args u fun e u' => e = .returned r ∧ Below u.heap.size u u') :
    Calls Try.prog fn args u fun e u' => e = .returned r ∧ Th w g T v f t s x u' := hc.mono fun _ _ ⟨he, hb⟩ => ⟨he, k.ext hb⟩
theorem Th.start {w u : World} {g : Nat} {T : TypeId} {v f : Int} {t s : List UInt8} (h : Blk u g T (hc v t s f).toArray) (hb : Below w.heap.size w u) (ht : t.length = 16) (hs : s.length = 8) (f0 : 0 ≤ f) (f1 : f ≤ 255) :
    Th w g T v f t s (.slice (some ⟨g, 25, none⟩) 1 1) u := by
  refine ⟨h, ⟨some ⟨g, 25, none⟩, 1, rfl, Nat.le_refl _, rfl, fun _ => ⟨_, rfl, h.lt, fun j q hq => ?_⟩⟩, hb⟩
  cases j with
  | zero =>
    have e : (b8s [bt f])[0]? = some (.int .u8 f) := by simp [b8s, b8_bt f f0 f1]
    rw [e] at hq
    rw [← hq]
    show u.cell? ⟨g, 25, none⟩ = _
    rw [h.cell 25, (hc_cells ht hs).2]
  | succ j => simp [b8s] at hq
theorem Th.loadT {w u : World} {g : Nat} {T : TypeId} {v f : Int} {t s : List UInt8} {x : Value} (k : Th w g T v f t s x u) (ht : t.length = 16) : (Instr.loadAt 39 (.pointer (some ⟨g, 1, none⟩))).run Try.prog u = .ok (Av t) u :=
  run_loadAt_mid u g 1 39 (b8s t) _ (run_load_seg (n := 16) (ty := 39) (by rw [← hc_trace]; exact k.h) rfl) Try.underlying39 rfl (by rw [info_trace]; simp [ht])
theorem Th.loadX {w u : World} {g : Nat} {T : TypeId} {v f : Int} {t s : List UInt8} {x : Value} (k : Th w g T v f t s x u) (ht : t.length = 16) (hs : s.length = 8) : (Instr.loadAt 41 (.pointer (some ⟨g, 17, none⟩))).run Try.prog u = .ok (Av s) u :=
  run_loadAt_mid u g 17 41 (b8s s) _ (run_load_seg (n := 8) (ty := 41) (by rw [← hc_span]; exact k.h) (by simp [ht])) Try.underlying41 rfl (by rw [info_span]; simp [hs])
theorem Th.loadF {w u : World} {g : Nat} {T : TypeId} {v f : Int} {t s : List UInt8} {x : Value} (k : Th w g T v f t s x u) (ht : t.length = 16) (hs : s.length = 8) : (Instr.loadAt 5 (.pointer (some ⟨g, 25, none⟩))).run Try.prog u = .ok (.int .u8 f) u := by
  have hcell : u.cell? ⟨g, 25, none⟩ = some (.int .u8 f) := by rw [k.h.cell 25, (hc_cells ht hs).2]
  go_simp
theorem Th.make {w u : World} {g : Nat} {T : TypeId} {v f : Int} {t s : List UInt8} {x : Value} (k : Th w g T v f t s x u) (f0 : 0 ≤ f) (f1 : f ≤ 255) : Th w g T v f t s (.slice (some ⟨u.heap.size, 0, none⟩) 1 1) (u.alloc (.cells #[.int .u8 f] 5)) := by
  have k' := k.ext (ext_alloc u (.cells #[.int .u8 f] 5))
  exact ⟨k'.h, bs_new u [bt f] _ (0, 0) 1 (by simp [b8s, b8_bt f f0 f1]) rfl, k'.bel⟩
def textH (t x : List UInt8) (f : Int) : List UInt8 := if mayB t x = true then [48, 48, 45] ++ hexEnc t ++ [45] ++ hexEnc x ++ [45] ++ hexEnc [bt f] else []
set_option maxRecDepth 100000 in
set_option maxHeartbeats 4000000 in
theorem ptext_any (v f : Int) (t x : List UInt8) (w : World) (ht : t.length = 16) (hx : x.length = 8) (f0 : 0 ≤ f) (f1 : f ≤ 255) :
    Calls Try.prog 44 #[Hv v t x f] w fun e w' => e = .returned (Sv (textH t x f)) ∧ Below w.heap.size w w' := by
  have HT := hid ht
  have HX := hid hx
  have HB := hid (Blk.new w 58 (hc v t x f).toArray)
  have HBW := hid (ext_alloc w (.cells (hc v t x f).toArray 58))
  have HB1 : Hid (Blk (w.alloc (.cells (hc v t x f).toArray 58)) w.heap.size 58 ([Value.int .u8 v] ++ (b8s t ++ (b8s x ++ [Value.int .u8 f]))).toArray) := by rw [← hc_trace]; exact Blk.new w _ _
  have HB2 : Hid (Blk (w.alloc (.cells (hc v t x f).toArray 58)) w.heap.size 58 (([Value.int .u8 v] ++ b8s t) ++ (b8s x ++ [Value.int .u8 f])).toArray) := by rw [← hc_span]; exact Blk.new w _ _
  obtain ⟨c0, c25⟩ := hc_cells (v := v) (f := f) ht hx
  have C25 := hid c25
  have HL17 := hid (show ([Value.int .u8 v] ++ b8s t).length = 17 by simp [ht])
  have l1 := hid (hexEnc_length t)
  have l2 := hid (hexEnc_length x)
  clear c0 c25 ht hx
  cases hm : mayB t x with
  | false =>
    have HR := hid (show textH t x f = [] by unfold textH; rw [hm]; rfl)
    have HM := hid hm
    clear hm
    go_enter Try.func44, Try.ntmps44
    go_wp2_with (refine wpList_load_hv rfl 58 (.tmp 1) rfl w.heap.size _ _ v f t x rfl HB.out Try.underlying58 rfl info_hdr HT.out HX.out ?_)
    refine (pmay_any v f t x _ HT.out HX.out).mono ?_; rintro e w1 ⟨rfl, hb1⟩
    rw [HM.out]
    go_wp2_with fail
    go_ret
    exact ⟨by rw [HR.out]; rfl, HBW.out.trans (hb1.mono HBW.out.size)⟩
  | true =>
    have HR := hid (show textH t x f = [48, 48, 45] ++ hexEnc t ++ [45] ++ hexEnc x ++ [45] ++ hexEnc [bt f] by unfold textH; rw [if_pos hm])
    have HM := hid hm
    clear hm
    go_enter Try.func44, Try.ntmps44
    go_wp2_with (refine wpList_load_hv rfl 58 (.tmp 1) rfl w.heap.size _ _ v f t x rfl HB.out Try.underlying58 rfl info_hdr HT.out HX.out ?_)
    refine (pmay_any v f t x _ HT.out HX.out).mono ?_; rintro e w1 ⟨rfl, hb1⟩
    rw [HM.out]
    go_wp2_with fail
    have HBW1 := hid (HBW.out.trans (hb1.mono HBW.out.size))
    have hS0 := hid (Th.start (HB.out.below hb1 HB.out.lt) HBW1.out HT.out HX.out f0 f1)
    obtain ⟨E, hE⟩ : ∃ E, hexEnc t = E := ⟨_, rfl⟩
    obtain ⟨D, hD⟩ : ∃ D, hexEnc x = D := ⟨_, rfl⟩
    obtain ⟨G, hG⟩ : ∃ G, hexEnc [bt f] = G := ⟨_, rfl⟩
    have le : E.length ≤ 32 := by rw [← hE, l1.out, HT.out]; decide
    have ld : D.length ≤ 16 := by rw [← hD, l2.out, HX.out]; decide
    have lg : G.length ≤ 2 := by rw [← hG]; exact Nat.le_refl _
    rw [hE, hD, hG] at HR
    clear hb1 l1 l2
    refine region_token (Th w w.heap.size 58 v f t x) 18 _ (by kernel_rfl) (by kernel_rfl) (hS0.out.ext (ext_drew _)) ?_
    clear hS0
    (refine tok_pure (v := ?_) (by decide) (fun _ => by rfl) ?_ ?_; rotate_left; (focus (intro x u; simp only [fam, Act.put, List.setIfInBounds_toArray, List.set_cons_zero, List.set_cons_succ]; go_simp; with_reducible rfl)); try simp only [Act.put, List.setIfInBounds_toArray, List.set_cons_zero, List.set_cons_succ])
    refine tok_load 39 (.tmp 6) rfl (by decide) (fun _ => by rfl) (fun y u k => k.loadT HT.out) ?_
    try simp only [Act.put, List.setIfInBounds_toArray, List.set_cons_zero, List.set_cons_succ]
    refine tok_call (fun y u k => k.call (hE ▸ tracetext_any t u HT.out)) (by decide) (fun _ => by rfl) (fun y u => by simp only [fam]; go_simp) ?_
    try simp only [Act.put, List.setIfInBounds_toArray, List.set_cons_zero, List.set_cons_succ]
    (refine tok_add _ _ _ _ rfl (fun _ => by rfl) (fun _ => by rfl) ?_ (by decide) (fun _ => by rfl) ?_; (focus (simp only [List.length_append, List.length_cons, List.length_nil]; omega)); try simp only [Act.put, List.setIfInBounds_toArray, List.set_cons_zero, List.set_cons_succ])
    (refine tok_add _ _ _ _ rfl (fun _ => by rfl) (fun _ => by rfl) ?_ (by decide) (fun _ => by rfl) ?_; (focus (simp only [List.length_append, List.length_cons, List.length_nil]; omega)); try simp only [Act.put, List.setIfInBounds_toArray, List.set_cons_zero, List.set_cons_succ])
    (refine tok_pure (v := ?_) (by decide) (fun _ => by rfl) ?_ ?_; rotate_left; (focus (intro x u; simp only [fam, Act.put, List.setIfInBounds_toArray, List.set_cons_zero, List.set_cons_succ]; go_simp; with_reducible rfl)); try simp only [Act.put, List.setIfInBounds_toArray, List.set_cons_zero, List.set_cons_succ])
    refine tok_load 41 (.tmp 11) rfl (by decide) (fun _ => by rfl) (fun y u k => k.loadX HT.out HX.out) ?_
    try simp only [Act.put, List.setIfInBounds_toArray, List.set_cons_zero, List.set_cons_succ]
    refine tok_call (fun y u k => k.call (hD ▸ spantext_any x u HX.out)) (by decide) (fun _ => by rfl) (fun y u => by simp only [fam]; go_simp) ?_
    try simp only [Act.put, List.setIfInBounds_toArray, List.set_cons_zero, List.set_cons_succ]
    (refine tok_add _ _ _ _ rfl (fun _ => by rfl) (fun _ => by rfl) ?_ (by decide) (fun _ => by rfl) ?_; (focus (simp only [List.length_append, List.length_cons, List.length_nil]; omega)); try simp only [Act.put, List.setIfInBounds_toArray, List.set_cons_zero, List.set_cons_succ])
    (refine tok_add _ _ _ _ rfl (fun _ => by rfl) (fun _ => by rfl) ?_ (by decide) (fun _ => by rfl) ?_; (focus (simp only [List.length_append, List.length_cons, List.length_nil]; omega)); try simp only [Act.put, List.setIfInBounds_toArray, List.set_cons_zero, List.set_cons_succ])
    (refine tok_pure (v := ?_) (by decide) (fun _ => by rfl) ?_ ?_; rotate_left; (focus (intro x u; simp only [fam, Act.put, List.setIfInBounds_toArray, List.set_cons_zero, List.set_cons_succ]; go_simp; with_reducible rfl)); try simp only [Act.put, List.setIfInBounds_toArray, List.set_cons_zero, List.set_cons_succ])
    refine tok_load 5 (.tmp 16) rfl (by decide) (fun _ => by rfl) (fun y u k => k.loadF HT.out HX.out) ?_
    try simp only [Act.put, List.setIfInBounds_toArray, List.set_cons_zero, List.set_cons_succ]
    refine tok_make rfl (by rfl) (fun y u k => ⟨_, _, by go_simp, k.make f0 f1⟩) ?_
    try simp only [Act.put, List.setIfInBounds_toArray, List.set_cons_zero, List.set_cons_succ]
    refine tok_run (v := Sv [bt f]) (by decide) (fun _ => by rfl) (fun y u k => by
      have hr := run_to_string k.tok
      simp only [fam, Act.put, List.setIfInBounds_toArray, List.set_cons_zero, List.set_cons_succ]
      simp [execOp, Act.eval, hr, Result.andThen]) ?_
    try simp only [Act.put, List.setIfInBounds_toArray, List.set_cons_zero, List.set_cons_succ]
    refine tok_call (fun y u k => k.call (hG ▸ htext_any [bt f] u (by simp))) (by decide) (fun _ => by rfl) (fun y u => by simp only [fam, Act.put, List.setIfInBounds_toArray, List.set_cons_zero, List.set_cons_succ]; go_simp) ?_
    try simp only [Act.put, List.setIfInBounds_toArray, List.set_cons_zero, List.set_cons_succ]
    (refine tok_add _ _ _ _ rfl (fun _ => by rfl) (fun _ => by rfl) ?_ (by decide) (fun _ => by rfl) ?_; (focus (simp only [List.length_append, List.length_cons, List.length_nil]; omega)); try simp only [Act.put, List.setIfInBounds_toArray, List.set_cons_zero, List.set_cons_succ])
    (refine tok_pure (v := ?_) (by decide) (fun _ => by rfl) ?_ ?_; rotate_left; (focus (intro x u; simp only [fam, Act.put, List.setIfInBounds_toArray, List.set_cons_zero, List.set_cons_succ]; go_simp; with_reducible rfl)); try simp only [Act.put, List.setIfInBounds_toArray, List.set_cons_zero, List.set_cons_succ])
    refine tok_nil (fun y u k => ?_)
    simp only [fam, Act.put, List.setIfInBounds_toArray, List.set_cons_zero, List.set_cons_succ]
    have KB := hid k.bel
    clear k
    go_wp2_with fail
    go_ret
    exact ⟨by rw [HR.out]; simp, KB.out⟩
end Go.Proofs.Ytdjbgojdkaipfaa
