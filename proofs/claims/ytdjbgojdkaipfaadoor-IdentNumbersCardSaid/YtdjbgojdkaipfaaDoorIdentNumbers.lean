/-
  The law IdentNumbers.
-/
import Derived.Test.YtdjbgojdkaipfaaDoorIdentNum
import Derived.Test.YtdjbgojdkaipfaaDoorOpenName
import Derived.Test.YtdjbgojdkaipfaaDoorHighs
namespace Go.Proofs.YtdjbgojdkaipfaaDoor
open Go.RowKit

structure Sn (w : World) (g h : Nat) (l x : List UInt8) (u : World) : Prop where
  t : Blk u g 44 (b8s l).toArray
  x : Blk u h 46 (b8s x).toArray
  highs : Highs u
  bel : Below w.heap.size w u
theorem Sn.ext {w u u' : World} {g h : Nat} {l x : List UInt8} (s : Sn w g h l x u) (k : Below u.heap.size u u') : Sn w g h l x u' :=
  ⟨Blk.below s.t k (Blk.lt s.t), Blk.below s.x k (Blk.lt s.x), s.highs.ext k, s.bel.trans (k.mono s.bel.size)⟩
theorem Sn.call {w u : World} {g h : Nat} {l x : List UInt8} (s : Sn w g h l x u) {f : FuncId} {args : Array Value} {v : Value} (k : Calls Tryd.prog f args u fun e u' => e = .returned v ∧ Below u.heap.size u u') :
    Calls Tryd.prog f args u fun e u' => e = .returned v ∧ Sn w g h l x u' := k.mono fun _ _ ⟨he, hb⟩ => ⟨he, s.ext hb⟩
theorem Sn.loadT {w u : World} {g h : Nat} {l x : List UInt8} (s : Sn w g h l x u) (hl : l.length = 16) : (Instr.loadAt 44 (.pointer (some ⟨g, 0, none⟩))).run Tryd.prog u = .ok (Av l) u :=
  run_loadAt_mid u g 0 44 (b8s l) _ (fun j v hv => by rw [Nat.zero_add, s.t.cell j, ← hv]; simp) Tryd.underlying44 rfl (by rw [info_trace]; simp [hl])
theorem Sn.loadX {w u : World} {g h : Nat} {l x : List UInt8} (s : Sn w g h l x u) (hx : x.length = 8) : (Instr.loadAt 46 (.pointer (some ⟨h, 0, none⟩))).run Tryd.prog u = .ok (Av x) u :=
  run_loadAt_mid u h 0 46 (b8s x) _ (fun j v hv => by rw [Nat.zero_add, s.x.cell j, ← hv]; simp) Tryd.underlying46 rfl (by rw [info_span]; simp [hx])
set_option maxRecDepth 100000 in
set_option maxHeartbeats 4000000 in
theorem identNumbers_any (l x : List UInt8) (u v : Int) (w : World) (hh : Highs w) (hl : l.length = 16) (hx : x.length = 8) (u0 : 0 ≤ u) (u1 : u ≤ 18446744073709551615) (v0 : 0 ≤ v) (v1 : v ≤ 18446744073709551615) :
    Calls Tryd.prog 5 #[Av l, Av x, .int .u64 u, .int .u64 v] w fun e w' => e = .returned (.bool true) ∧ Below w.heap.size w w' := by
  have hS0 : Sn w w.heap.size (w.heap.size + 1) l x ((w.alloc (.cells (b8s l).toArray 44)).alloc (.cells (b8s x).toArray 46)) := by
    obtain ⟨hA, hB, _, _, hbw⟩ := box2 (Below.refl ((w.alloc (.cells (b8s l).toArray 44)).alloc (.cells (b8s x).toArray 46)).heap.size _)
    exact ⟨hA, hB, hh.ext hbw, hbw⟩
  have HS0 := hid hS0
  obtain ⟨a0, a1⟩ := valH_bd8 (l.take 8) (by simp [hl])
  obtain ⟨b0, b1⟩ := valH_bd8 (l.drop 8) (by simp [hl])
  obtain ⟨n0, n1⟩ := valH_bd8 x hx
  have hj : highB (valH (l.take 8)) 8 ++ highB (valH (l.drop 8)) 8 = l := by rw [high_val _ (by simp [hl]), high_val _ (by simp [hl]), List.take_append_drop]
  have hsx : highB (valH x) 8 = x := high_val _ hx
  have HJ := hid hj
  have HX := hid hsx
  have HL := hid hl
  have HXL := hid hx
  have q1 := fun u => run_neq_av u 44 16 Tryd.underlying44 l l hl hl
  have q2 := fun w' => run_neq_av w' 44 16 Tryd.underlying44 (highB u 8 ++ highB v 8) (highB u 8 ++ highB v 8) (by simp [highB_length]) (by simp [highB_length])
  have q3 := fun w' => run_neq_av w' 46 8 Tryd.underlying46 (highB u 8) (highB u 8) (highB_length _ _) (highB_length _ _)
  have q4 := fun u => run_neq_av u 46 8 Tryd.underlying46 x x hx hx
  clear hS0 hh hl hx hj hsx
  go_enter Tryd.func5, Tryd.ntmps5
  go_wp2_with (refine wpList_load_av rfl 44 (.tmp 4) rfl w.heap.size 16 l _ rfl HS0.out.t Tryd.underlying44 info_trace HL.out ?_)
  refine (halves_any l _ HL.out).mono ?_; rintro e w1 ⟨rfl, hb1⟩
  have HS1 := hid (HS0.out.ext hb1)
  clear hb1 HS0
  go_wp2_with (refine wpList_load_av rfl 44 (.tmp 4) rfl w.heap.size 16 l _ rfl HS1.out.t Tryd.underlying44 info_trace HL.out ?_)
  refine (rhalves_any l _ HL.out).mono ?_; rintro e w2 ⟨rfl, hb2⟩
  have HS2 := hid (HS1.out.ext hb2)
  clear hb2 HS1
  go_wp2_with fail
  refine region_steady (Sn w w.heap.size (w.heap.size + 1) l x) (by kernel_rfl) (by kernel_rfl) (HS2.out.ext (ext_drew _)) ?_
  clear HS2
  repeat (first
    | (refine steady_off (by rfl) ?_; try simp only [Act.put, List.setIfInBounds_toArray, List.set_cons_zero, List.set_cons_succ])
    | (refine steady_pure (v := ?_) (by rfl) ?_ ?_; rotate_left; (focus (intro u; go_simp; with_reducible rfl)); try simp only [Act.put, List.setIfInBounds_toArray, List.set_cons_zero, List.set_cons_succ]))
  refine steady_call (fun w' hS => hS.call (HJ.out ▸ join_any (valH (l.take 8)) (valH (l.drop 8)) w' hS.highs a0 a1 b0 b1)) (by rfl) (fun w' => by go_simp) ?_
  try simp only [Act.put, List.setIfInBounds_toArray, List.set_cons_zero, List.set_cons_succ]
  refine steady_load 44 (.tmp 4) rfl (by rfl) (fun w' hS => hS.loadT HL.out) ?_
  try simp only [Act.put, List.setIfInBounds_toArray, List.set_cons_zero, List.set_cons_succ]
  repeat (first
    | (refine steady_off (by rfl) ?_; try simp only [Act.put, List.setIfInBounds_toArray, List.set_cons_zero, List.set_cons_succ])
    | (refine steady_pure (v := ?_) (by rfl) ?_ ?_; rotate_left; (focus (intro u; go_simp; with_reducible rfl)); try simp only [Act.put, List.setIfInBounds_toArray, List.set_cons_zero, List.set_cons_succ]))
  refine steady_call (fun w' hS => hS.call (join_any u v w' hS.highs u0 u1 v0 v1)) (by rfl) (fun w' => by go_simp) ?_
  try simp only [Act.put, List.setIfInBounds_toArray, List.set_cons_zero, List.set_cons_succ]
  repeat (first
    | (refine steady_off (by rfl) ?_; try simp only [Act.put, List.setIfInBounds_toArray, List.set_cons_zero, List.set_cons_succ])
    | (refine steady_pure (v := ?_) (by rfl) ?_ ?_; rotate_left; (focus (intro u; go_simp; with_reducible rfl)); try simp only [Act.put, List.setIfInBounds_toArray, List.set_cons_zero, List.set_cons_succ]))
  refine steady_call (fun w' hS => hS.call (rjoin_any u v w' u0 u1 v0 v1)) (by rfl) (fun w' => by go_simp) ?_
  try simp only [Act.put, List.setIfInBounds_toArray, List.set_cons_zero, List.set_cons_succ]
  repeat (first
    | (refine steady_off (by rfl) ?_; try simp only [Act.put, List.setIfInBounds_toArray, List.set_cons_zero, List.set_cons_succ])
    | (refine steady_pure (v := ?_) (by rfl) ?_ ?_; rotate_left; (focus (intro u; go_simp; with_reducible rfl)); try simp only [Act.put, List.setIfInBounds_toArray, List.set_cons_zero, List.set_cons_succ]))
  refine steady_load 46 (.tmp 5) rfl (by rfl) (fun w' hS => hS.loadX HXL.out) ?_
  try simp only [Act.put, List.setIfInBounds_toArray, List.set_cons_zero, List.set_cons_succ]
  refine steady_call (fun w' hS => hS.call (number_any x w' HXL.out)) (by rfl) (fun w' => by go_simp) ?_
  try simp only [Act.put, List.setIfInBounds_toArray, List.set_cons_zero, List.set_cons_succ]
  refine steady_load 46 (.tmp 5) rfl (by rfl) (fun w' hS => hS.loadX HXL.out) ?_
  try simp only [Act.put, List.setIfInBounds_toArray, List.set_cons_zero, List.set_cons_succ]
  refine steady_call (fun w' hS => hS.call (rnum_any x w' HXL.out)) (by rfl) (fun w' => by go_simp) ?_
  try simp only [Act.put, List.setIfInBounds_toArray, List.set_cons_zero, List.set_cons_succ]
  repeat (first
    | (refine steady_off (by rfl) ?_; try simp only [Act.put, List.setIfInBounds_toArray, List.set_cons_zero, List.set_cons_succ])
    | (refine steady_pure (v := ?_) (by rfl) ?_ ?_; rotate_left; (focus (intro u; go_simp; with_reducible rfl)); try simp only [Act.put, List.setIfInBounds_toArray, List.set_cons_zero, List.set_cons_succ]))
  refine steady_call (fun w' hS => hS.call (span_any u w' hS.highs u0 u1)) (by rfl) (fun w' => by go_simp) ?_
  try simp only [Act.put, List.setIfInBounds_toArray, List.set_cons_zero, List.set_cons_succ]
  repeat (first
    | (refine steady_off (by rfl) ?_; try simp only [Act.put, List.setIfInBounds_toArray, List.set_cons_zero, List.set_cons_succ])
    | (refine steady_pure (v := ?_) (by rfl) ?_ ?_; rotate_left; (focus (intro u; go_simp; with_reducible rfl)); try simp only [Act.put, List.setIfInBounds_toArray, List.set_cons_zero, List.set_cons_succ]))
  refine steady_call (fun w' hS => hS.call (rspanu_any u w' u0 u1)) (by rfl) (fun w' => by go_simp) ?_
  try simp only [Act.put, List.setIfInBounds_toArray, List.set_cons_zero, List.set_cons_succ]
  repeat (first
    | (refine steady_off (by rfl) ?_; try simp only [Act.put, List.setIfInBounds_toArray, List.set_cons_zero, List.set_cons_succ])
    | (refine steady_pure (v := ?_) (by rfl) ?_ ?_; rotate_left; (focus (intro u; go_simp; with_reducible rfl)); try simp only [Act.put, List.setIfInBounds_toArray, List.set_cons_zero, List.set_cons_succ]))
  refine steady_load 46 (.tmp 5) rfl (by rfl) (fun w' hS => hS.loadX HXL.out) ?_
  try simp only [Act.put, List.setIfInBounds_toArray, List.set_cons_zero, List.set_cons_succ]
  refine steady_call (fun w' hS => hS.call (number_any x w' HXL.out)) (by rfl) (fun w' => by go_simp) ?_
  try simp only [Act.put, List.setIfInBounds_toArray, List.set_cons_zero, List.set_cons_succ]
  refine steady_call (fun w' hS => hS.call (HX.out ▸ span_any (valH x) w' hS.highs n0 n1)) (by rfl) (fun w' => by go_simp) ?_
  try simp only [Act.put, List.setIfInBounds_toArray, List.set_cons_zero, List.set_cons_succ]
  refine steady_load 46 (.tmp 5) rfl (by rfl) (fun w' hS => hS.loadX HXL.out) ?_
  try simp only [Act.put, List.setIfInBounds_toArray, List.set_cons_zero, List.set_cons_succ]
  repeat (first
    | (refine steady_off (by rfl) ?_; try simp only [Act.put, List.setIfInBounds_toArray, List.set_cons_zero, List.set_cons_succ])
    | (refine steady_pure (v := ?_) (by rfl) ?_ ?_; rotate_left; (focus (intro u; go_simp; with_reducible rfl)); try simp only [Act.put, List.setIfInBounds_toArray, List.set_cons_zero, List.set_cons_succ]))
  refine steady_nil (fun w3 HS3 => ?_)
  have HS3 := hid HS3
  go_wp2_with fail
  refine region_steady (Sn w w.heap.size (w.heap.size + 1) l x) (by kernel_rfl) (by kernel_rfl) (HS3.out.ext (ext_drew _)) ?_
  clear HS3
  refine steady_load 44 (.tmp 4) rfl (by rfl) (fun w' hS => hS.loadT HL.out) ?_
  try simp only [Act.put, List.setIfInBounds_toArray, List.set_cons_zero, List.set_cons_succ]
  refine steady_call (fun w' hS => hS.call (tracetext_any l w' HL.out)) (by rfl) (fun w' => by go_simp) ?_
  try simp only [Act.put, List.setIfInBounds_toArray, List.set_cons_zero, List.set_cons_succ]
  refine steady_load 44 (.tmp 4) rfl (by rfl) (fun w' hS => hS.loadT HL.out) ?_
  try simp only [Act.put, List.setIfInBounds_toArray, List.set_cons_zero, List.set_cons_succ]
  refine steady_call (fun w' hS => hS.call (rtracebytes_any l w' HL.out)) (by rfl) (fun w' => by go_simp) ?_
  try simp only [Act.put, List.setIfInBounds_toArray, List.set_cons_zero, List.set_cons_succ]
  refine steady_call (fun w' hS => hS.call (rtext_any l w' (by rw [HL.out]; decide))) (by rfl) (fun w' => by go_simp) ?_
  try simp only [Act.put, List.setIfInBounds_toArray, List.set_cons_zero, List.set_cons_succ]
  repeat (first
    | (refine steady_off (by rfl) ?_; try simp only [Act.put, List.setIfInBounds_toArray, List.set_cons_zero, List.set_cons_succ])
    | (refine steady_pure (v := ?_) (by rfl) ?_ ?_; rotate_left; (focus (intro u; go_simp; with_reducible rfl)); try simp only [Act.put, List.setIfInBounds_toArray, List.set_cons_zero, List.set_cons_succ]))
  refine steady_load 46 (.tmp 5) rfl (by rfl) (fun w' hS => hS.loadX HXL.out) ?_
  try simp only [Act.put, List.setIfInBounds_toArray, List.set_cons_zero, List.set_cons_succ]
  refine steady_call (fun w' hS => hS.call (spantext_any x w' HXL.out)) (by rfl) (fun w' => by go_simp) ?_
  try simp only [Act.put, List.setIfInBounds_toArray, List.set_cons_zero, List.set_cons_succ]
  refine steady_load 46 (.tmp 5) rfl (by rfl) (fun w' hS => hS.loadX HXL.out) ?_
  try simp only [Act.put, List.setIfInBounds_toArray, List.set_cons_zero, List.set_cons_succ]
  refine steady_call (fun w' hS => hS.call (rspanbytes_any x w' HXL.out)) (by rfl) (fun w' => by go_simp) ?_
  try simp only [Act.put, List.setIfInBounds_toArray, List.set_cons_zero, List.set_cons_succ]
  refine steady_call (fun w' hS => hS.call (rtext_any x w' (by rw [HXL.out]; decide))) (by rfl) (fun w' => by go_simp) ?_
  try simp only [Act.put, List.setIfInBounds_toArray, List.set_cons_zero, List.set_cons_succ]
  repeat (first
    | (refine steady_off (by rfl) ?_; try simp only [Act.put, List.setIfInBounds_toArray, List.set_cons_zero, List.set_cons_succ])
    | (refine steady_pure (v := ?_) (by rfl) ?_ ?_; rotate_left; (focus (intro u; go_simp; with_reducible rfl)); try simp only [Act.put, List.setIfInBounds_toArray, List.set_cons_zero, List.set_cons_succ]))
  refine steady_call (fun w' hS => hS.call (iworks_any w')) (by rfl) (fun w' => by go_simp) ?_
  try simp only [Act.put, List.setIfInBounds_toArray, List.set_cons_zero, List.set_cons_succ]
  repeat (first
    | (refine steady_off (by rfl) ?_; try simp only [Act.put, List.setIfInBounds_toArray, List.set_cons_zero, List.set_cons_succ])
    | (refine steady_pure (v := ?_) (by rfl) ?_ ?_; rotate_left; (focus (intro u; go_simp; with_reducible rfl)); try simp only [Act.put, List.setIfInBounds_toArray, List.set_cons_zero, List.set_cons_succ]))
  refine steady_nil (fun w4 HS4 => ?_)
  go_wp2_with fail
  go_ret
  exact ⟨rfl, HS4.bel⟩
end Go.Proofs.YtdjbgojdkaipfaaDoor
