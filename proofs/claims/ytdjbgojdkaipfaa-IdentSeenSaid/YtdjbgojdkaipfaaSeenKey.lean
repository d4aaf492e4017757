/-
  Every pair of names is a key; what Find tells.
-/
import Derived.Test.YtdjbgojdkaipfaaSeen
namespace Go.Proofs.Ytdjbgojdkaipfaa
open Go.RowKit Go.Maps Go.WideShapes

theorem wf_b8 (b : UInt8) : (Lit.int .u8 (b.toNat : Int)).wf = true := by
  have := b.toNat_lt
  simp [Lit.wf, IntKind.min, IntKind.max, IntKind.signed, IntKind.bits]; omega
theorem mapM_ok {α β : Type} {f : α → Option β} : ∀ {l : List α}, (∀ a ∈ l, (f a).isSome = true) → (l.mapM f).isSome = true
  | [], _ => rfl
  | a :: l, h => by
    obtain ⟨y, hy⟩ := Option.isSome_iff_exists.1 (h a (by simp))
    obtain ⟨ys, hys⟩ := Option.isSome_iff_exists.1 (mapM_ok (f := f) (l := l) (fun b hb => h b (by simp [hb])))
    rw [List.mapM_cons, hy, hys]; rfl
theorem lits_u8 (d : Nat) (b : UInt8) : (Try.prog.keyLits (d + 1) 5 [b8 b]).isSome = true := by
  simp [Program.keyLits, Try.underlying5, b8, wf_b8]
theorem lits_arr (d n ty : Nat) (hty : Try.prog.underlying ty = some (.array n 5)) (hc : Try.prog.cellsOf ty = n) (hu : Try.prog.cellsOf 5 = 1) (l : List UInt8) (hl : l.length = n) :
    (Try.prog.keyLits (d + 2) ty (b8s l)).isSome = true := by
  unfold Program.keyLits
  rw [hty]
  simp only []
  rw [if_pos (by rw [hc, b8s_length, hl]), Option.isSome_map]
  refine mapM_ok fun i hi => ?_
  have hin : i < n := by simpa using hi
  rw [hu, Nat.mul_one]
  have hlt : i < (b8s l).length := by rw [b8s_length]; omega
  rw [List.drop_eq_getElem_cons hlt, List.take_succ_cons, List.take_zero]
  have e : (b8s l)[i] = b8 (l[i]'(by omega)) := by simp [b8s]
  rw [e]
  exact lits_u8 d _
theorem key_any (t x : List UInt8) (ht : t.length = 16) (hx : x.length = 8) : ∃ kl, keyOf Try.prog 138 (Av (t ++ x)) = some kl := by
  refine Option.isSome_iff_exists.1 ?_
  obtain ⟨m, hm⟩ : ∃ m, Try.prog.types.size + 1 = m + 3 := ⟨Try.prog.types.size - 2, by have : 2 ≤ Try.prog.types.size := of_decide_eq_true (by kernel_rfl); omega⟩
  have hf : (Av (t ++ x)).formed Try.prog 138 = true := by
    obtain ⟨a0, a1, a2, a3, a4, a5, a6, a7, a8, a9, a10, a11, a12, a13, a14, a15, rfl⟩ := ln16 ht
    obtain ⟨b0, b1, b2, b3, b4, b5, b6, b7, rfl⟩ := ln8 hx
    kernel_rfl
  have hk : Try.prog.keyType 138 = true := by kernel_rfl
  have hcells : (Av (t ++ x)).cells.toList = b8s t ++ b8s x := by
    show (b8s (t ++ x)).toArray.toList = _
    simp [b8s]
  unfold keyOf
  rw [Try.underlying138]
  simp only []
  rw [hk, hf, hm, hcells]
  simp only [Bool.and_self, if_true, Option.isSome_map]
  unfold Program.keyLits
  rw [Try.underlying138]
  simp only []
  have hc16 : Try.prog.cellsOf 39 = 16 := by kernel_rfl
  have hc8 : Try.prog.cellsOf 41 = 8 := by kernel_rfl
  have hcp : Try.prog.cellsOf 138 = 24 := by kernel_rfl
  have hcu : Try.prog.cellsOf 5 = 1 := by kernel_rfl
  rw [if_pos ⟨by rw [hcp, List.length_append, b8s_length, b8s_length, ht, hx], by kernel_rfl⟩, Option.isSome_map]
  refine mapM_ok fun f hf' => ?_
  simp only [List.mem_cons, List.not_mem_nil, or_false] at hf'
  rcases hf' with rfl | rfl
  · show (Try.prog.keyLits (m + 2) 39 (List.take (Try.prog.cellsOf 39) (List.drop 0 (b8s t ++ b8s x)))).isSome = true
    rw [hc16, List.drop_zero, List.take_append_of_le_length (by rw [b8s_length, ht]; exact Nat.le_refl _), List.take_of_length_le (by rw [b8s_length, ht]; exact Nat.le_refl _)]
    exact lits_arr m 16 _ Try.underlying39 hc16 hcu t ht
  · show (Try.prog.keyLits (m + 2) 41 (List.take (Try.prog.cellsOf 41) (List.drop 16 (b8s t ++ b8s x)))).isSome = true
    have hd : List.drop 16 (b8s t ++ b8s x) = b8s x := by
      have : (b8s t).length = 16 := by rw [b8s_length, ht]
      rw [← this]; exact List.drop_left
    rw [hc8, hd, List.take_of_length_le (by rw [b8s_length, hx]; exact Nat.le_refl _)]
    exact lits_arr m 8 _ Try.underlying41 hc8 hcu x hx
def FindPost (D : DataW Unit) (kl : Lit) (e : Ending) : Prop :=
  ∃ c, e = .returned (.tuple #[.int .i64 c, .bool (Maps.has D kl)]) ∧ D.atKey kl (.lit (.int .i64 0)) = .lit (.int .i64 c)
theorem wpStill_build2 {P : Program} {ops : Array Oper} {w : World} {Q : Act → Prop} {a : Act} {o : Oper} {rest : List Oper} (hg : o.guard = none) (ty : TypeId) (i0 i1 : Nat) (x0 x1 : Operand) (ho : o.op = .build ty #[(i0, x0), (i1, x1)])
    (v0 v1 : Value) (cells : Array Value) (h0 : a.eval x0 = v0) (h1 : a.eval x1 = v1) (hb : P.built ty [(i0, v0), (i1, v1)] = some cells) (hn : wpStill P ops w Q rest (a.put o.dst (.agg cells))) : wpStill P ops w Q (o :: rest) a := by
  refine wpStill_step (fun K hK => ?_)
  rw [if_pos (by simp [Region.wanted, hg])]
  have e : (execOp a.eval o).run P w = .ok (.value (.agg cells)) w := by
    have hc := run_build (P := P) w ty ((#[(i0, x0), (i1, x1)] : Array (Nat × Operand)).map fun (i, x) => (i, a.eval x)) cells (by simp [h0, h1, hb])
    unfold execOp
    simp only [ho, Sem.run_bind, hc, Result.andThen_ok]
    rfl
  unfold Oper.still
  rw [e]
  exact ⟨rfl, hK _ hn⟩
set_option maxRecDepth 100000 in
set_option maxHeartbeats 4000000 in
theorem find_any (t x : List UInt8) (ht : t.length = 16) (hx : x.length = 8) (s m n : Nat) (D : DataW Unit) (kl : Lit) (w : World) (h : SeenAt w s m n D) (hkey : keyOf Try.prog 138 (Av (t ++ x)) = some kl) :
    Calls Try.prog 34 #[.pointer (some ⟨s, 0, none⟩), Av t, Av x] w fun e w' => FindPost D kl e ∧ SeenAt w' s m n D ∧ Below w.heap.size w w' := by
  obtain ⟨hA, hB, _, _, hbw⟩ := box2 (Below.refl ((w.alloc (.cells (b8s t).toArray 39)).alloc (.cells (b8s x).toArray 41)).heap.size _)
  have HA := hid hA
  have HB := hid hB
  have HBW := hid hbw
  have H1 := hid (h.ext hbw)
  have HK := hid hkey
  clear hA hB hbw h hkey
  go_enter Try.func34, Try.ntmps34
  go_wp2_with fail
  refine still_al (by kernel_rfl) (by kernel_rfl) ?_
  intro w5 hw5
  have HA5 := hid (hw5 ▸ HA.out.drew)
  have HB5 := hid (hw5 ▸ HB.out.drew)
  have H5 := hid (hw5 ▸ H1.out.ext (ext_drew _))
  have HW5 := hid (show Below w.heap.size w w5 by rw [← hw5]; exact Below.drew HBW.out)
  clear hw5 HA HB H1 HBW
  have hc5 := H5.out.blk.cell 0
  have hl1 := hid (show (Instr.loadAt 39 (.pointer (some ⟨w.heap.size, 0, none⟩))).run Try.prog w5 = .ok (Av t) w5 from
    run_loadAt_mid w5 w.heap.size 0 39 (b8s t) _ (fun j u hu => by rw [Nat.zero_add, HA5.out.cell j, ← hu]; simp) Try.underlying39 rfl (by rw [info_trace]; simp [ht]))
  have hl2 := hid (show (Instr.loadAt 41 (.pointer (some ⟨w.heap.size + 1, 0, none⟩))).run Try.prog w5 = .ok (Av x) w5 from
    run_loadAt_mid w5 (w.heap.size + 1) 0 41 (b8s x) _ (fun j u hu => by rw [Nat.zero_add, HB5.out.cell j, ← hu]; simp) Try.underlying41 rfl (by rw [info_span]; simp [hx]))
  obtain ⟨v5, ps5, hlook, hv5⟩ := World.ownsMap.look_ok H5.out.own pair_law Try.underlying134 (zeroInt w5) (plainElem_int (H := Unit) Try.underlying3 (a := 0) (by decide)) HK.out
  obtain ⟨c5, rfl, hc5z, _⟩ := plainElem_int_inv Try.underlying3 hv5
  simp only [Prod.mk.injEq] at hc5z
  have hat := hid hc5z.1
  clear hv5 hc5z
  repeat (first
    | (refine wpStill_load rfl 39 (.tmp 4) rfl (Av t) hl1.out ?_)
    | (refine wpStill_load rfl 41 (.tmp 5) rfl (Av x) hl2.out ?_)
    | (refine wpStill_build2 rfl 138 0 1 (.tmp 17) (.tmp 18) rfl (Av t) (Av x) _ rfl rfl (built_pair t x ht hx) ?_; change wpStill _ _ _ _ _ (Act.put _ _ (Av (t ++ x))))
    | still_step)
  refine wpStill_nil ?_
  go_wp2_with fail
  exact bodyPost_ret (v := .tuple #[.int .i64 c5, .bool (Maps.has D kl)]) (by simp only [results, Try.results34]; go_simp) rfl ⟨⟨c5, rfl, hat.out⟩, H5.out, HW5.out⟩
end Go.Proofs.Ytdjbgojdkaipfaa
