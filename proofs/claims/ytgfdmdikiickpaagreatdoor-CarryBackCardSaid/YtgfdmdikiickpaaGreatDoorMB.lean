/-
  Texts for the laws of this seat, merged: Hdr, Parent, ParentRead.
-/
import Derived.Deep.MidRow
import Derived.BigFrame
import Derived.Deep.DeepCutAuto
import Derived.Test.YtgfdmdikiickpaaGreatDoorMA
/-! Hdr -/
namespace Go.Proofs.YtgfdmdikiickpaaGreatDoor
open Go.RowKit

/-- The cells of a header, and of a context. -/
def hc (v : Int) (t x : List UInt8) (f : Int) : List Value := [.int .u8 v] ++ b8s t ++ b8s x ++ [.int .u8 f]
def cc (t x p : List UInt8) (k : Int) : List Value := b8s t ++ b8s x ++ b8s p ++ [.int .i64 k]
def Hv (v : Int) (t x : List UInt8) (f : Int) : Value := .agg (hc v t x f).toArray
def Cv (t x p : List UInt8) (k : Int) : Value := .agg (cc t x p k).toArray
@[go_sem high] theorem cells_Hv (v : Int) (t x : List UInt8) (f : Int) : (Hv v t x f).cells = (hc v t x f).toArray := rfl
@[go_sem high] theorem cells_match_Hv (v : Int) (t x : List UInt8) (f : Int) : Value.cells.match_1 (fun _ => Array Value) (Hv v t x f) (fun cs => cs) (fun v => #[v]) = (hc v t x f).toArray := rfl
@[go_sem high] theorem cells_Cv (t x p : List UInt8) (k : Int) : (Cv t x p k).cells = (cc t x p k).toArray := rfl
@[go_sem high] theorem cells_match_Cv (t x p : List UInt8) (k : Int) : Value.cells.match_1 (fun _ => Array Value) (Cv t x p k) (fun cs => cs) (fun v => #[v]) = (cc t x p k).toArray := rfl
theorem len16 {t : List UInt8} (h : t.length = 16) : ∃ a0  a1  a2  a3  a4  a5  a6  a7  a8  a9  a10  a11  a12  a13  a14  a15, t = [a0, a1, a2, a3, a4, a5, a6, a7, a8, a9, a10, a11, a12, a13, a14, a15] := by
  match t, h with
  | [a0, a1, a2, a3, a4, a5, a6, a7, a8, a9, a10, a11, a12, a13, a14, a15], _ => exact ⟨a0, a1, a2, a3, a4, a5, a6, a7, a8, a9, a10, a11, a12, a13, a14, a15, rfl⟩
theorem len8 {t : List UInt8} (h : t.length = 8) : ∃ b0  b1  b2  b3  b4  b5  b6  b7, t = [b0, b1, b2, b3, b4, b5, b6, b7] := by
  match t, h with
  | [b0, b1, b2, b3, b4, b5, b6, b7], _ => exact ⟨b0, b1, b2, b3, b4, b5, b6, b7, rfl⟩
set_option maxRecDepth 100000 in
theorem built_full (v f : Int) (t x : List UInt8) (ht : t.length = 16) (hx : x.length = 8) : Tryz.prog.built 84 [(0, .int .u8 v), (1, Av t), (2, Av x), (3, .int .u8 f)] = some (hc v t x f).toArray := by
  obtain ⟨a0, a1, a2, a3, a4, a5, a6, a7, a8, a9, a10, a11, a12, a13, a14, a15, rfl⟩ := len16 ht
  obtain ⟨b0, b1, b2, b3, b4, b5, b6, b7, rfl⟩ := len8 hx
  kernel_rfl
set_option maxRecDepth 100000 in
theorem built_ends (v f : Int) : Tryz.prog.built 84 [(0, .int .u8 v), (3, .int .u8 f)] = some (hc v (zb 16) (zb 8) f).toArray := by
  kernel_rfl
set_option maxRecDepth 100000 in
theorem built_names (t x : List UInt8) (ht : t.length = 16) (hx : x.length = 8) : Tryz.prog.built 84 [(1, Av t), (2, Av x)] = some (hc 0 t x 0).toArray := by
  obtain ⟨a0, a1, a2, a3, a4, a5, a6, a7, a8, a9, a10, a11, a12, a13, a14, a15, rfl⟩ := len16 ht
  obtain ⟨b0, b1, b2, b3, b4, b5, b6, b7, rfl⟩ := len8 hx
  kernel_rfl
theorem info_hdr : (Tryz.prog.info? 84).map (·.size) = some 26 := by kernel_rfl
theorem guard_hdr : Tryz.prog.eqGuardType Tryz.prog.depth 84 = false := by kernel_rfl
set_option maxRecDepth 100000 in
theorem built_rfull (v f : Int) (t x : List UInt8) (ht : t.length = 16) (hx : x.length = 8) : Tryz.prog.built 56 [(0, .int .u8 v), (1, Av t), (2, Av x), (3, .int .u8 f)] = some (hc v t x f).toArray := by
  obtain ⟨a0, a1, a2, a3, a4, a5, a6, a7, a8, a9, a10, a11, a12, a13, a14, a15, rfl⟩ := len16 ht
  obtain ⟨b0, b1, b2, b3, b4, b5, b6, b7, rfl⟩ := len8 hx
  kernel_rfl
set_option maxRecDepth 100000 in
theorem built_rends (v f : Int) : Tryz.prog.built 56 [(0, .int .u8 v), (3, .int .u8 f)] = some (hc v (zb 16) (zb 8) f).toArray := by
  kernel_rfl
set_option maxRecDepth 100000 in
theorem built_rnames (t x : List UInt8) (ht : t.length = 16) (hx : x.length = 8) : Tryz.prog.built 56 [(1, Av t), (2, Av x)] = some (hc 0 t x 0).toArray := by
  obtain ⟨a0, a1, a2, a3, a4, a5, a6, a7, a8, a9, a10, a11, a12, a13, a14, a15, rfl⟩ := len16 ht
  obtain ⟨b0, b1, b2, b3, b4, b5, b6, b7, rfl⟩ := len8 hx
  kernel_rfl
theorem info_rhdr : (Tryz.prog.info? 56).map (·.size) = some 26 := by kernel_rfl
theorem guard_rhdr : Tryz.prog.eqGuardType Tryz.prog.depth 56 = false := by kernel_rfl
set_option maxRecDepth 100000 in
theorem built_ctx (k : Int) (t x : List UInt8) (ht : t.length = 16) (hx : x.length = 8) : Tryz.prog.built 31 [(0, Av t), (1, Av x), (3, .int .i64 k)] = some (cc t x (zb 8) k).toArray := by
  obtain ⟨a0, a1, a2, a3, a4, a5, a6, a7, a8, a9, a10, a11, a12, a13, a14, a15, rfl⟩ := len16 ht
  obtain ⟨b0, b1, b2, b3, b4, b5, b6, b7, rfl⟩ := len8 hx
  kernel_rfl
theorem info_ctx : (Tryz.prog.info? 31).map (·.size) = some 33 := by kernel_rfl
theorem guard_ctx : Tryz.prog.eqGuardType Tryz.prog.depth 31 = false := by kernel_rfl
theorem run_part_seg (w : World) (ty n off : Nat) (pre post : List Value) (l : List UInt8) (hty : Tryz.prog.underlying ty = some (.array n 5)) (hi : (Tryz.prog.info? ty).map (·.size) = some n) (hp : pre.length = off) (hl : l.length = n) :
    (part ty (pre ++ (b8s l ++ post)).toArray off).run Tryz.prog w = .ok (Av l) w := by
  cases hq : Tryz.prog.info? ty with
  | none => simp [hq] at hi
  | some i =>
    have hs : i.size = n := by simpa [hq] using hi
    have e2 : List.take n (List.drop off (pre ++ (b8s l ++ post))) = b8s l := by subst hp hl; simp
    simp only [part, isAgg, Sem.run_bind, run_underlying hty, sizeOf, typeInfo, Result.andThen_ok, Sem.run_pure]
    simp [hq, hs, e2]
    rfl
theorem run_load_seg {w : World} {g _ty _n off : Nat} {T : TypeId} {pre post : List Value} {l : List UInt8} (hb : Blk w g T (pre ++ (b8s l ++ post)).toArray) (hp : pre.length = off) : w.rangeAt g off (b8s l) := by
  intro j v hv
  rw [hb.cell (off + j), ← hv]
  have hj : j < (b8s l).length := by
    rcases Nat.lt_or_ge j (b8s l).length with h | h
    · exact h
    · rw [List.getElem?_eq_none h] at hv; cases hv
  subst hp
  simp only [List.getElem?_toArray]
  rw [List.getElem?_append_right (by omega), Nat.add_sub_cancel_left, List.getElem?_append_left hj]
theorem wpList_load_seg {ops : Array Oper} {rest : List Oper} {o : Oper} {a : Act} {w : World} {Q : Exit → Act → World → Prop} (hgd : o.guard = none) (ty : TypeId) (x : Operand) (ho : o.op = .load ty x)
    (g off n : Nat) (T : TypeId) (pre post : List Value) (l : List UInt8) (hx : a.eval x = .pointer (some ⟨g, off, none⟩)) (hb : Blk w g T (pre ++ (b8s l ++ post)).toArray) (hp : pre.length = off)
    (hty : Tryz.prog.underlying ty = some (.array n 5)) (hi : (Tryz.prog.info? ty).map (·.size) = some n) (hl : l.length = n)
    (h : wpList Tryz.prog ops Q rest (a.put o.dst (Av l)) w) : wpList Tryz.prog ops Q (o :: rest) a w :=
  wpList_load_mid hgd ty x ho g off hx (b8s l) _ (run_load_seg (_n := n) (_ty := ty) hb hp) hty rfl (by rw [hi]; simp [hl]) h
theorem wpList_load_hv {ops : Array Oper} {rest : List Oper} {o : Oper} {a : Act} {w : World} {Q : Exit → Act → World → Prop} (hgd : o.guard = none) (ty : TypeId) (x : Operand) (ho : o.op = .load ty x)
    (g : Nat) (T : TypeId) (d : TypeDesc) (v f : Int) (t s : List UInt8) (hx : a.eval x = .pointer (some ⟨g, 0, none⟩)) (hb : Blk w g T (hc v t s f).toArray)
    (hu : Tryz.prog.underlying ty = some d) (hd : d.isRow = true) (hi : (Tryz.prog.info? ty).map (·.size) = some 26) (ht : t.length = 16) (hs : s.length = 8)
    (h : wpList Tryz.prog ops Q rest (a.put o.dst (Hv v t s f)) w) : wpList Tryz.prog ops Q (o :: rest) a w :=
  wpList_load_mid hgd ty x ho g 0 hx (hc v t s f) d (fun j u hu => by rw [Nat.zero_add, hb.cell j, ← hu]; simp) hu hd (by rw [hi]; simp [hc, ht, hs]) h
theorem wpList_load_cv {ops : Array Oper} {rest : List Oper} {o : Oper} {a : Act} {w : World} {Q : Exit → Act → World → Prop} (hgd : o.guard = none) (ty : TypeId) (x : Operand) (ho : o.op = .load ty x)
    (g : Nat) (T : TypeId) (d : TypeDesc) (k : Int) (t s p : List UInt8) (hx : a.eval x = .pointer (some ⟨g, 0, none⟩)) (hb : Blk w g T (cc t s p k).toArray)
    (hu : Tryz.prog.underlying ty = some d) (hd : d.isRow = true) (hi : (Tryz.prog.info? ty).map (·.size) = some 33) (ht : t.length = 16) (hs : s.length = 8) (hp : p.length = 8)
    (h : wpList Tryz.prog ops Q rest (a.put o.dst (Cv t s p k)) w) : wpList Tryz.prog ops Q (o :: rest) a w :=
  wpList_load_mid hgd ty x ho g 0 hx (cc t s p k) d (fun j u hu => by rw [Nat.zero_add, hb.cell j, ← hu]; simp) hu hd (by rw [hi]; simp [cc, ht, hs, hp]) h
theorem hc_one (v f : Int) (t s : List UInt8) : (hc v t s f).toArray.all (·.oneCell') = true := by
  rw [Array.all_eq_true_iff_forall_mem]
  intro u hu
  simp only [hc, List.mem_toArray, List.mem_append, List.mem_singleton] at hu
  rcases hu with ((rfl | hu) | hu) | rfl
  · rfl
  · exact b8s_one t u hu
  · exact b8s_one s u hu
  · rfl
theorem cc_one (k : Int) (t s p : List UInt8) : (cc t s p k).toArray.all (·.oneCell') = true := by
  rw [Array.all_eq_true_iff_forall_mem]
  intro u hu
  simp only [cc, List.mem_toArray, List.mem_append, List.mem_singleton] at hu
  rcases hu with ((hu | hu) | hu) | rfl
  · exact b8s_one t u hu
  · exact b8s_one s u hu
  · exact b8s_one p u hu
  · rfl
theorem wpList_store_hv {ops : Array Oper} {rest : List Oper} {o : Oper} {a : Act} {w : World} {Q : Exit → Act → World → Prop} (hgd : o.guard = none) (ty : TypeId) (x y : Operand) (ho : o.op = .store ty x y)
    (g : Nat) (T : TypeId) (v f v0 f0 : Int) (t s t0 s0 : List UInt8) (hx : a.eval x = .pointer (some ⟨g, 0, none⟩)) (hy : a.eval y = Hv v t s f) (hb : Blk w g T (hc v0 t0 s0 f0).toArray)
    (hi : (Tryz.prog.info? ty).map (·.size) = some 26) (ht : t.length = 16) (hs : s.length = 8) (ht0 : t0.length = 16) (hs0 : s0.length = 8)
    (h : ∀ w', w' = w.setRow g (hc v t s f).toArray → Blk w' g T (hc v t s f).toArray → wpList Tryz.prog ops Q rest (a.put o.dst undef) w') : wpList Tryz.prog ops Q (o :: rest) a w :=
  wpList_store_row hgd ty x y ho g _ hx hy T _ hb (by rw [hi]; simp [hc, ht, hs]) (by simp [hc, ht, hs, ht0, hs0]) (hc_one v f t s) (h _ rfl (setRow_blk hb _))
theorem wpList_store_cv {ops : Array Oper} {rest : List Oper} {o : Oper} {a : Act} {w : World} {Q : Exit → Act → World → Prop} (hgd : o.guard = none) (ty : TypeId) (x y : Operand) (ho : o.op = .store ty x y)
    (g : Nat) (T : TypeId) (k k0 : Int) (t s p t0 s0 p0 : List UInt8) (hx : a.eval x = .pointer (some ⟨g, 0, none⟩)) (hy : a.eval y = Cv t s p k) (hb : Blk w g T (cc t0 s0 p0 k0).toArray)
    (hi : (Tryz.prog.info? ty).map (·.size) = some 33) (ht : t.length = 16) (hs : s.length = 8) (hp : p.length = 8) (ht0 : t0.length = 16) (hs0 : s0.length = 8) (hp0 : p0.length = 8)
    (h : ∀ w', w' = w.setRow g (cc t s p k).toArray → Blk w' g T (cc t s p k).toArray → wpList Tryz.prog ops Q rest (a.put o.dst undef) w') : wpList Tryz.prog ops Q (o :: rest) a w :=
  wpList_store_row hgd ty x y ho g _ hx hy T _ hb (by rw [hi]; simp [cc, ht, hs, hp]) (by simp [cc, ht, hs, hp, ht0, hs0, hp0]) (cc_one k t s p) (h _ rfl (setRow_blk hb _))
theorem wpList_build_to {ops : Array Oper} {rest : List Oper} {o : Oper} {a : Act} {w : World} {Q : Exit → Act → World → Prop} (hgd : o.guard = none) (ty : TypeId) (parts : Array (Nat × Operand)) (ho : o.op = .build ty parts)
    (vs : List (Nat × Value)) (cells : Array Value) (hv : (parts.map fun (i, x) => (i, a.eval x)).toList = vs) (hb : Tryz.prog.built ty vs = some cells)
    (h : wpList Tryz.prog ops Q rest (a.put o.dst (.agg cells)) w) : wpList Tryz.prog ops Q (o :: rest) a w := by
  refine wpList_build hgd ty parts ho (by rw [hv, hb]; rfl) ?_
  rw [hv, hb]; exact h
theorem wpList_build2 {ops : Array Oper} {rest : List Oper} {o : Oper} {a : Act} {w : World} {Q : Exit → Act → World → Prop} (hgd : o.guard = none) (ty : TypeId) (i0 i1 : Nat) (x0 x1 : Operand) (ho : o.op = .build ty #[(i0, x0), (i1, x1)])
    (v0 v1 : Value) (cells : Array Value) (h0 : a.eval x0 = v0) (h1 : a.eval x1 = v1) (hb : Tryz.prog.built ty [(i0, v0), (i1, v1)] = some cells)
    (h : wpList Tryz.prog ops Q rest (a.put o.dst (.agg cells)) w) : wpList Tryz.prog ops Q (o :: rest) a w :=
  wpList_build_to hgd ty _ ho _ cells (by simp [h0, h1]) hb h
theorem wpList_build3 {ops : Array Oper} {rest : List Oper} {o : Oper} {a : Act} {w : World} {Q : Exit → Act → World → Prop} (hgd : o.guard = none) (ty : TypeId) (i0 i1 i2 : Nat) (x0 x1 x2 : Operand) (ho : o.op = .build ty #[(i0, x0), (i1, x1), (i2, x2)])
    (v0 v1 v2 : Value) (cells : Array Value) (h0 : a.eval x0 = v0) (h1 : a.eval x1 = v1) (h2 : a.eval x2 = v2) (hb : Tryz.prog.built ty [(i0, v0), (i1, v1), (i2, v2)] = some cells)
    (h : wpList Tryz.prog ops Q rest (a.put o.dst (.agg cells)) w) : wpList Tryz.prog ops Q (o :: rest) a w :=
  wpList_build_to hgd ty _ ho _ cells (by simp [h0, h1, h2]) hb h
theorem wpList_build4 {ops : Array Oper} {rest : List Oper} {o : Oper} {a : Act} {w : World} {Q : Exit → Act → World → Prop} (hgd : o.guard = none) (ty : TypeId) (i0 i1 i2 i3 : Nat) (x0 x1 x2 x3 : Operand) (ho : o.op = .build ty #[(i0, x0), (i1, x1), (i2, x2), (i3, x3)])
    (v0 v1 v2 v3 : Value) (cells : Array Value) (h0 : a.eval x0 = v0) (h1 : a.eval x1 = v1) (h2 : a.eval x2 = v2) (h3 : a.eval x3 = v3) (hb : Tryz.prog.built ty [(i0, v0), (i1, v1), (i2, v2), (i3, v3)] = some cells)
    (h : wpList Tryz.prog ops Q rest (a.put o.dst (.agg cells)) w) : wpList Tryz.prog ops Q (o :: rest) a w :=
  wpList_build_to hgd ty _ ho _ cells (by simp [h0, h1, h2, h3]) hb h
/-- The same where a guard says yes. -/
theorem wpList_load_avW {ops : Array Oper} {rest : List Oper} {o : Oper} {a : Act} {w : World} {Q : Exit → Act → World → Prop} (hgd : Region.wanted o (yielded ops a.tmps) = true) (ty : TypeId) (x : Operand) (ho : o.op = .load ty x)
    (g n : Nat) (l : List UInt8) (t : TypeId) (hx : a.eval x = .pointer (some ⟨g, 0, none⟩)) (hb : Blk w g t (b8s l).toArray) (hty : Tryz.prog.underlying ty = some (.array n 5)) (hi : (Tryz.prog.info? ty).map (·.size) = some n) (hl : l.length = n)
    (h : wpList Tryz.prog ops Q rest (a.put o.dst (Av l)) w) : wpList Tryz.prog ops Q (o :: rest) a w :=
  BigFrame.wpList_want hgd fun _ hK => wp_load_row ty x ho g hx t _ _ _ hb hty rfl (by rw [hi]; simp [hl]) (hK _ _ h)
theorem wpList_load_segW {ops : Array Oper} {rest : List Oper} {o : Oper} {a : Act} {w : World} {Q : Exit → Act → World → Prop} (hgd : Region.wanted o (yielded ops a.tmps) = true) (ty : TypeId) (x : Operand) (ho : o.op = .load ty x)
    (g off n : Nat) (T : TypeId) (pre post : List Value) (l : List UInt8) (hx : a.eval x = .pointer (some ⟨g, off, none⟩)) (hb : Blk w g T (pre ++ (b8s l ++ post)).toArray) (hp : pre.length = off)
    (hty : Tryz.prog.underlying ty = some (.array n 5)) (hi : (Tryz.prog.info? ty).map (·.size) = some n) (hl : l.length = n)
    (h : wpList Tryz.prog ops Q rest (a.put o.dst (Av l)) w) : wpList Tryz.prog ops Q (o :: rest) a w :=
  BigFrame.wpList_want hgd fun _ hK => wp_load_mid ty x ho g off hx (b8s l) _ (run_load_seg (_n := n) (_ty := ty) hb hp) hty rfl (by rw [hi]; simp [hl]) (hK _ _ h)
theorem run_loadAt_seg {w : World} {ty g off n : Nat} {T : TypeId} {pre post : List Value} {l : List UInt8} (hb : Blk w g T (pre ++ (b8s l ++ post)).toArray) (hp : pre.length = off)
    (hty : Tryz.prog.underlying ty = some (.array n 5)) (hi : (Tryz.prog.info? ty).map (·.size) = some n) (hl : l.length = n) : (Instr.loadAt ty (.pointer (some ⟨g, off, none⟩))).run Tryz.prog w = .ok (Av l) w :=
  run_loadAt_mid w g off ty (b8s l) _ (run_load_seg (_n := n) (_ty := ty) hb hp) hty rfl (by rw [hi]; simp [hl])
theorem hc_trace (v f : Int) (t s : List UInt8) : hc v t s f = [.int .u8 v] ++ (b8s t ++ (b8s s ++ [.int .u8 f])) := by simp [hc]
theorem hc_span (v f : Int) (t s : List UInt8) : hc v t s f = ([.int .u8 v] ++ b8s t) ++ (b8s s ++ [.int .u8 f]) := by simp [hc]
theorem hc_cells {v f : Int} {t s : List UInt8} (ht : t.length = 16) (hs : s.length = 8) : (hc v t s f).toArray[0]? = some (.int .u8 v) ∧ (hc v t s f).toArray[25]? = some (.int .u8 f) := by
  obtain ⟨a0, a1, a2, a3, a4, a5, a6, a7, a8, a9, a10, a11, a12, a13, a14, a15, rfl⟩ := len16 ht
  obtain ⟨b0, b1, b2, b3, b4, b5, b6, b7, rfl⟩ := len8 hs
  exact ⟨rfl, rfl⟩
theorem hc_flags {v f : Int} {t s : List UInt8} (ht : t.length = 16) (hs : s.length = 8) (k : Int) : (hc v t s f).toArray.setIfInBounds 25 (.int .u8 k) = (hc v t s k).toArray := by
  obtain ⟨a0, a1, a2, a3, a4, a5, a6, a7, a8, a9, a10, a11, a12, a13, a14, a15, rfl⟩ := len16 ht
  obtain ⟨b0, b1, b2, b3, b4, b5, b6, b7, rfl⟩ := len8 hs
  rfl
theorem cc_cells {k : Int} {t s p : List UInt8} (ht : t.length = 16) (hs : s.length = 8) (hp : p.length = 8) : (cc t s p k).toArray[32]? = some (.int .i64 k) := by
  obtain ⟨a0, a1, a2, a3, a4, a5, a6, a7, a8, a9, a10, a11, a12, a13, a14, a15, rfl⟩ := len16 ht
  obtain ⟨b0, b1, b2, b3, b4, b5, b6, b7, rfl⟩ := len8 hs
  obtain ⟨c0, c1, c2, c3, c4, c5, c6, c7, rfl⟩ := len8 hp
  rfl
theorem cc_keep {k : Int} {t s p : List UInt8} (ht : t.length = 16) (hs : s.length = 8) (hp : p.length = 8) (m : Int) : (cc t s p k).toArray.setIfInBounds 32 (.int .i64 m) = (cc t s p m).toArray := by
  obtain ⟨a0, a1, a2, a3, a4, a5, a6, a7, a8, a9, a10, a11, a12, a13, a14, a15, rfl⟩ := len16 ht
  obtain ⟨b0, b1, b2, b3, b4, b5, b6, b7, rfl⟩ := len8 hs
  obtain ⟨c0, c1, c2, c3, c4, c5, c6, c7, rfl⟩ := len8 hp
  rfl
theorem results_hv2 {fn : Func} {p q : Tmp} {ty : TypeId} (h : fn.results = #[.cell p ty, .tmp q]) (tmps : Array Value) (w : World) (g : Nat) (T : TypeId) (d : TypeDesc) (v f : Int) (t s : List UInt8)
    (hp : tmps.getD p undef = .pointer (some ⟨g, 0, none⟩)) (hb : Blk w g T (hc v t s f).toArray) (hu : Tryz.prog.underlying ty = some d) (hd : d.isRow = true) (hi : (Tryz.prog.info? ty).map (·.size) = some 26) (ht : t.length = 16) (hs : s.length = 8) :
    (results fn tmps).run Tryz.prog w = .ok (.tuple #[Hv v t s f, tmps.getD q undef]) w := by
  have hp' : tmps[p]?.getD undef = .pointer (some ⟨g, 0, none⟩) := by simpa using hp
  have hl := run_loadVar_mid (P := Tryz.prog) w g 0 ty (hc v t s f) d (fun j u hu => by rw [Nat.zero_add, hb.cell j, ← hu]; simp) hu hd (by rw [hi]; simp [hc, ht, hs])
  simp [results, h, hp', asAddr, hl, Hv]
theorem results_hv1 {fn : Func} {p : Tmp} {ty : TypeId} (h : fn.results = #[.cell p ty]) (tmps : Array Value) (w : World) (g : Nat) (T : TypeId) (d : TypeDesc) (v f : Int) (t s : List UInt8)
    (hp : tmps.getD p undef = .pointer (some ⟨g, 0, none⟩)) (hb : Blk w g T (hc v t s f).toArray) (hu : Tryz.prog.underlying ty = some d) (hd : d.isRow = true) (hi : (Tryz.prog.info? ty).map (·.size) = some 26) (ht : t.length = 16) (hs : s.length = 8) :
    (results fn tmps).run Tryz.prog w = .ok (Hv v t s f) w := by
  have hp' : tmps[p]?.getD undef = .pointer (some ⟨g, 0, none⟩) := by simpa using hp
  have hl := run_loadVar_mid (P := Tryz.prog) w g 0 ty (hc v t s f) d (fun j u hu => by rw [Nat.zero_add, hb.cell j, ← hu]; simp) hu hd (by rw [hi]; simp [hc, ht, hs])
  simp [results, h, hp', asAddr, hl, Hv]
theorem results_cv1 {fn : Func} {q : Tmp} {ty : TypeId} (h : fn.results = #[.cell q ty]) (tmps : Array Value) (w : World) (g : Nat) (T : TypeId) (d : TypeDesc) (k : Int) (t s p : List UInt8)
    (hq : tmps.getD q undef = .pointer (some ⟨g, 0, none⟩)) (hb : Blk w g T (cc t s p k).toArray) (hu : Tryz.prog.underlying ty = some d) (hd : d.isRow = true) (hi : (Tryz.prog.info? ty).map (·.size) = some 33) (ht : t.length = 16) (hs : s.length = 8) (hp : p.length = 8) :
    (results fn tmps).run Tryz.prog w = .ok (Cv t s p k) w := by
  have hp' : tmps[q]?.getD undef = .pointer (some ⟨g, 0, none⟩) := by simpa using hq
  have hl := run_loadVar_mid (P := Tryz.prog) w g 0 ty (cc t s p k) d (fun j u hu => by rw [Nat.zero_add, hb.cell j, ← hu]; simp) hu hd (by rw [hi]; simp [cc, ht, hs, hp])
  simp [results, h, hp', asAddr, hl, Cv]
theorem run_part_one (w : World) (ty : TypeId) (k : IntKind) (xs : Array Value) (off : Nat) (u : Value) (hty : Tryz.prog.underlying ty = some (.int k)) (hu : xs[off]? = some u) : (part ty xs off).run Tryz.prog w = .ok u w := by
  simp [part, isAgg, run_underlying hty, hu]
theorem run_equalIn_av (w : World) (d ty n : Nat) (hty : Tryz.prog.underlying ty = some (.array n 5)) (x y : List UInt8) (hx : x.length = n) (hy : y.length = n) :
    (Op.equalIn (d + 2) ty (Av x) (Av y)).run Tryz.prog w = .ok (x == y) w :=
  run_equalIn_bytes (P := Tryz.prog) w d ty 5 n hty Tryz.underlying5 (fun w => size_u8 w) x y hx hy
theorem beq_toNat (a b : Int) : (a == b) = decide (a = b) := by by_cases h : a = b <;> simp [h]
/-- A struct's fields, one behind the other: equality goes field by field. -/
theorem run_eqFields_cons (w : World) (d : Nat) (xs ys : Array Value) (f : Field) (fs : List Field) (a b : Value) (r s : Bool) (hn : f.name ≠ "_") (ha : (part f.type xs f.offset).run Tryz.prog w = .ok a w) (hb : (part f.type ys f.offset).run Tryz.prog w = .ok b w)
    (he : (Op.equalIn d f.type a b).run Tryz.prog w = .ok r w) (hr : (Op.eqFields d xs ys fs).run Tryz.prog w = .ok s w) : (Op.eqFields d xs ys (f :: fs)).run Tryz.prog w = .ok (r && s) w := by
  simp only [Op.eqFields, if_pos hn, Sem.run_bind, ha, hb, he, Result.andThen_ok]
  cases r
  · simp
  · simpa using hr
theorem cc_trace (k : Int) (t s p : List UInt8) : cc t s p k = [] ++ (b8s t ++ (b8s s ++ b8s p ++ [.int .i64 k])) := by simp [cc]
theorem cc_span (k : Int) (t s p : List UInt8) : cc t s p k = b8s t ++ (b8s s ++ (b8s p ++ [.int .i64 k])) := by simp [cc]
theorem cc_parent (k : Int) (t s p : List UInt8) : cc t s p k = (b8s t ++ b8s s) ++ (b8s p ++ [.int .i64 k]) := by simp [cc]
set_option maxRecDepth 100000 in
theorem fields_hdr : (Tryz.prog.fieldsOf 84).toList.map (fun f => (f.name == "_", f.type, f.offset)) = [(false, 5, 0), (false, 27, 1), (false, 29, 17), (false, 5, 25)] := by kernel_rfl
set_option maxRecDepth 100000 in
theorem und_hdr : Tryz.prog.underlying 84 = some (.struct (Tryz.prog.fieldsOf 84)) := by kernel_rfl
set_option maxRecDepth 100000 in
theorem held_hdr : Tryz.prog.stoodInHeld 84 = false := by kernel_rfl
theorem run_equalIn_hv (w : World) (d : Nat) (v f v' f' : Int) (t s t' s' : List UInt8) (ht : t.length = 16) (hs : s.length = 8) (ht' : t'.length = 16) (hs' : s'.length = 8) :
    (Op.equalIn (d + 3) 84 (Hv v t s f) (Hv v' t' s' f')).run Tryz.prog w = .ok (v == v' && (t == t' && (s == s' && (f == f' && true)))) w := by
  unfold Hv
  rw [run_equalIn_struct w (d + 2) 84 _ _ und_hdr held_hdr]
  have hf := fields_hdr
  revert hf
  generalize (Tryz.prog.fieldsOf 84).toList = fs
  intro hf
  have hlen : fs.length = 4 := by have := congrArg List.length hf; simpa using this
  match fs, hlen with
  | [f0, f1, f2, f3], _ =>
    simp only [List.map_cons, List.map_nil, List.cons.injEq, Prod.mk.injEq, and_true] at hf
    obtain ⟨⟨n0, t0, o0⟩, ⟨n1, t1, o1⟩, ⟨n2, t2, o2⟩, ⟨n3, t3, o3⟩⟩ := hf
    obtain ⟨c0, c3⟩ := hc_cells (v := v) (f := f) ht hs
    obtain ⟨c0', c3'⟩ := hc_cells (v := v') (f := f') ht' hs'
    refine run_eqFields_cons w _ _ _ f0 _ (.int .u8 v) (.int .u8 v') _ _ (by simpa using n0) (by rw [t0, o0]; exact run_part_one w _ _ _ _ _ Tryz.underlying5 c0) (by rw [t0, o0]; exact run_part_one w _ _ _ _ _ Tryz.underlying5 c0') (by rw [t0]; exact run_equalIn_int w _ _ .u8 .u8 v v' Tryz.underlying5) ?_
    refine run_eqFields_cons w _ _ _ f1 _ (Av t) (Av t') _ _ (by simpa using n1) (by rw [t1, o1, hc_trace]; exact run_part_seg w _ 16 1 _ _ t Tryz.underlying27 info_trace rfl ht) (by rw [t1, o1, hc_trace]; exact run_part_seg w _ 16 1 _ _ t' Tryz.underlying27 info_trace rfl ht') (by rw [t1]; exact run_equalIn_av w _ _ 16 Tryz.underlying27 t t' ht ht') ?_
    refine run_eqFields_cons w _ _ _ f2 _ (Av s) (Av s') _ _ (by simpa using n2) (by rw [t2, o2, hc_span]; exact run_part_seg w _ 8 17 _ _ s Tryz.underlying29 info_span (by simp [ht]) hs) (by rw [t2, o2, hc_span]; exact run_part_seg w _ 8 17 _ _ s' Tryz.underlying29 info_span (by simp [ht']) hs') (by rw [t2]; exact run_equalIn_av w _ _ 8 Tryz.underlying29 s s' hs hs') ?_
    refine run_eqFields_cons w _ _ _ f3 _ (.int .u8 f) (.int .u8 f') _ _ (by simpa using n3) (by rw [t3, o3]; exact run_part_one w _ _ _ _ _ Tryz.underlying5 c3) (by rw [t3, o3]; exact run_part_one w _ _ _ _ _ Tryz.underlying5 c3') (by rw [t3]; exact run_equalIn_int w _ _ .u8 .u8 f f' Tryz.underlying5) ?_
    simp [Op.eqFields]
def hvq (v : Int) (t s : List UInt8) (f v' : Int) (t' s' : List UInt8) (f' : Int) : Bool := v == v' && (t == t' && (s == s' && (f == f' && true)))
theorem run_eq_hv (w : World) (v f v' f' : Int) (t s t' s' : List UInt8) (ht : t.length = 16) (hs : s.length = 8) (ht' : t'.length = 16) (hs' : s'.length = 8) :
    (binOp .eql 84 (Hv v t s f) (Hv v' t' s' f')).run Tryz.prog w = .ok (.bool (hvq v t s f v' t' s' f')) w := by
  show (binOp .eql 84 (.agg _) (.agg _)).run Tryz.prog w = _
  rw [run_eql_struct]
  have := run_equalIn_hv w 9997 v f v' f' t s t' s' ht hs ht' hs'
  unfold Hv at this
  rw [this]; rfl
theorem run_neq_hv (w : World) (v f v' f' : Int) (t s t' s' : List UInt8) (ht : t.length = 16) (hs : s.length = 8) (ht' : t'.length = 16) (hs' : s'.length = 8) :
    (binOp .neq 84 (Hv v t s f) (Hv v' t' s' f')).run Tryz.prog w = .ok (.bool (!(hvq v t s f v' t' s' f'))) w := by
  show (binOp .neq 84 (.agg _) (.agg _)).run Tryz.prog w = _
  rw [run_neq_struct]
  have := run_equalIn_hv w 9997 v f v' f' t s t' s' ht hs ht' hs'
  unfold Hv at this
  rw [this]; rfl
@[go_sem] theorem run_eqGuard_hv (w : World) (op : BinOp) (x y : Operand) (v f v' f' : Int) (t s t' s' : List UInt8) : (eqGuard op 84 x y (Hv v t s f) (Hv v' t' s' f')).run Tryz.prog w = .ok () w := run_eqGuard_agg w op _ x y _ _ guard_hdr
set_option maxRecDepth 100000 in
theorem fields_rhdr : (Tryz.prog.fieldsOf 56).toList.map (fun f => (f.name == "_", f.type, f.offset)) = [(false, 5, 0), (false, 27, 1), (false, 29, 17), (false, 5, 25)] := by kernel_rfl
set_option maxRecDepth 100000 in
theorem und_rhdr : Tryz.prog.underlying 56 = some (.struct (Tryz.prog.fieldsOf 56)) := by kernel_rfl
set_option maxRecDepth 100000 in
theorem held_rhdr : Tryz.prog.stoodInHeld 56 = false := by kernel_rfl
theorem run_equalIn_rhv (w : World) (d : Nat) (v f v' f' : Int) (t s t' s' : List UInt8) (ht : t.length = 16) (hs : s.length = 8) (ht' : t'.length = 16) (hs' : s'.length = 8) :
    (Op.equalIn (d + 3) 56 (Hv v t s f) (Hv v' t' s' f')).run Tryz.prog w = .ok (v == v' && (t == t' && (s == s' && (f == f' && true)))) w := by
  unfold Hv
  rw [run_equalIn_struct w (d + 2) 56 _ _ und_rhdr held_rhdr]
  have hf := fields_rhdr
  revert hf
  generalize (Tryz.prog.fieldsOf 56).toList = fs
  intro hf
  have hlen : fs.length = 4 := by have := congrArg List.length hf; simpa using this
  match fs, hlen with
  | [f0, f1, f2, f3], _ =>
    simp only [List.map_cons, List.map_nil, List.cons.injEq, Prod.mk.injEq, and_true] at hf
    obtain ⟨⟨n0, t0, o0⟩, ⟨n1, t1, o1⟩, ⟨n2, t2, o2⟩, ⟨n3, t3, o3⟩⟩ := hf
    obtain ⟨c0, c3⟩ := hc_cells (v := v) (f := f) ht hs
    obtain ⟨c0', c3'⟩ := hc_cells (v := v') (f := f') ht' hs'
    refine run_eqFields_cons w _ _ _ f0 _ (.int .u8 v) (.int .u8 v') _ _ (by simpa using n0) (by rw [t0, o0]; exact run_part_one w _ _ _ _ _ Tryz.underlying5 c0) (by rw [t0, o0]; exact run_part_one w _ _ _ _ _ Tryz.underlying5 c0') (by rw [t0]; exact run_equalIn_int w _ _ .u8 .u8 v v' Tryz.underlying5) ?_
    refine run_eqFields_cons w _ _ _ f1 _ (Av t) (Av t') _ _ (by simpa using n1) (by rw [t1, o1, hc_trace]; exact run_part_seg w _ 16 1 _ _ t Tryz.underlying27 info_trace rfl ht) (by rw [t1, o1, hc_trace]; exact run_part_seg w _ 16 1 _ _ t' Tryz.underlying27 info_trace rfl ht') (by rw [t1]; exact run_equalIn_av w _ _ 16 Tryz.underlying27 t t' ht ht') ?_
    refine run_eqFields_cons w _ _ _ f2 _ (Av s) (Av s') _ _ (by simpa using n2) (by rw [t2, o2, hc_span]; exact run_part_seg w _ 8 17 _ _ s Tryz.underlying29 info_span (by simp [ht]) hs) (by rw [t2, o2, hc_span]; exact run_part_seg w _ 8 17 _ _ s' Tryz.underlying29 info_span (by simp [ht']) hs') (by rw [t2]; exact run_equalIn_av w _ _ 8 Tryz.underlying29 s s' hs hs') ?_
    refine run_eqFields_cons w _ _ _ f3 _ (.int .u8 f) (.int .u8 f') _ _ (by simpa using n3) (by rw [t3, o3]; exact run_part_one w _ _ _ _ _ Tryz.underlying5 c3) (by rw [t3, o3]; exact run_part_one w _ _ _ _ _ Tryz.underlying5 c3') (by rw [t3]; exact run_equalIn_int w _ _ .u8 .u8 f f' Tryz.underlying5) ?_
    simp [Op.eqFields]
def rhvq (v : Int) (t s : List UInt8) (f v' : Int) (t' s' : List UInt8) (f' : Int) : Bool := v == v' && (t == t' && (s == s' && (f == f' && true)))
theorem run_eq_rhv (w : World) (v f v' f' : Int) (t s t' s' : List UInt8) (ht : t.length = 16) (hs : s.length = 8) (ht' : t'.length = 16) (hs' : s'.length = 8) :
    (binOp .eql 56 (Hv v t s f) (Hv v' t' s' f')).run Tryz.prog w = .ok (.bool (rhvq v t s f v' t' s' f')) w := by
  show (binOp .eql 56 (.agg _) (.agg _)).run Tryz.prog w = _
  rw [run_eql_struct]
  have := run_equalIn_rhv w 9997 v f v' f' t s t' s' ht hs ht' hs'
  unfold Hv at this
  rw [this]; rfl
theorem run_neq_rhv (w : World) (v f v' f' : Int) (t s t' s' : List UInt8) (ht : t.length = 16) (hs : s.length = 8) (ht' : t'.length = 16) (hs' : s'.length = 8) :
    (binOp .neq 56 (Hv v t s f) (Hv v' t' s' f')).run Tryz.prog w = .ok (.bool (!(rhvq v t s f v' t' s' f'))) w := by
  show (binOp .neq 56 (.agg _) (.agg _)).run Tryz.prog w = _
  rw [run_neq_struct]
  have := run_equalIn_rhv w 9997 v f v' f' t s t' s' ht hs ht' hs'
  unfold Hv at this
  rw [this]; rfl
@[go_sem] theorem run_eqGuard_rhv (w : World) (op : BinOp) (x y : Operand) (v f v' f' : Int) (t s t' s' : List UInt8) : (eqGuard op 56 x y (Hv v t s f) (Hv v' t' s' f')).run Tryz.prog w = .ok () w := run_eqGuard_agg w op _ x y _ _ guard_rhdr
end Go.Proofs.YtgfdmdikiickpaaGreatDoor

/-! Parent -/
namespace Go.Proofs.YtgfdmdikiickpaaGreatDoor
open Go.RowKit

theorem results_tmp5 {fn : Func} {t u v x y : Tmp} (h : fn.results = #[.tmp t, .tmp u, .tmp v, .tmp x, .tmp y]) (tmps : Array Value) (P : Program) (w : World) :
    (results fn tmps).run P w = .ok (.tuple #[tmps.getD t undef, tmps.getD u undef, tmps.getD v undef, tmps.getD x undef, tmps.getD y undef]) w := by simp [results, h]
def splitOk (s : List UInt8) : Bool := decide (55 ≤ s.length ∧ byteAt s 2 = 45 ∧ byteAt s 35 = 45 ∧ byteAt s 52 = 45)
def pV (s : List UInt8) : List UInt8 := s.take 2
def pT (s : List UInt8) : List UInt8 := (s.drop 3).take 32
def pX (s : List UInt8) : List UInt8 := (s.drop 36).take 16
def pF (s : List UInt8) : List UInt8 := (s.drop 53).take 2
def splitOut (s : List UInt8) : Value := if splitOk s = true then .tuple #[Sv (pV s), Sv (pT s), Sv (pX s), Sv (pF s), .bool true] else .tuple #[Sv [], Sv [], Sv [], Sv [], .bool false]
set_option maxRecDepth 100000 in
set_option maxHeartbeats 1000000 in
theorem split_any (s : List UInt8) (w : World) (hs : s.length ≤ 1125899906842624) :
    Calls Tryz.prog 87 #[Sv s] w fun e w' => e = .returned (splitOut s) ∧ Below w.heap.size w w' := by
  have HNO : splitOk s = false → Hid (splitOut s = .tuple #[Sv [], Sv [], Sv [], Sv [], .bool false]) := fun h => by unfold Hid splitOut; rw [h]; rfl
  by_cases h0 : s.length < 55
  · have HN := HNO (by unfold splitOk; exact decide_eq_false (fun h => by omega))
    clear HNO
    go_enter Tryz.func87, Tryz.ntmps87
    go_wp2
    refine bodyPost_ret (results_tmp5 rfl _ _ _) rfl ⟨by rw [HN.out]; rfl, Below.refl _ _⟩
  by_cases h1 : byteAt s 2 = 45
  case neg =>
    have HN := HNO (by unfold splitOk; exact decide_eq_false (fun h => h1 h.2.1))
    have b1 : (byteAt s 2 != 45) = true := by simpa using h1
    clear HNO h1
    go_enter Tryz.func87, Tryz.ntmps87
    go_wp2
    refine bodyPost_ret (results_tmp5 rfl _ _ _) rfl ⟨by rw [HN.out]; rfl, Below.refl _ _⟩
  have b1 : (byteAt s 2 != 45) = false := by simpa using h1
  by_cases h2 : byteAt s 35 = 45
  case neg =>
    have HN := HNO (by unfold splitOk; exact decide_eq_false (fun h => h2 h.2.2.1))
    have b2 : (byteAt s 35 != 45) = true := by simpa using h2
    clear HNO h2 h1
    go_enter Tryz.func87, Tryz.ntmps87
    go_wp2
    refine bodyPost_ret (results_tmp5 rfl _ _ _) rfl ⟨by rw [HN.out]; rfl, Below.refl _ _⟩
  have b2 : (byteAt s 35 != 45) = false := by simpa using h2
  by_cases h3 : byteAt s 52 = 45
  case neg =>
    have HN := HNO (by unfold splitOk; exact decide_eq_false (fun h => h3 h.2.2.2))
    have b3 : (byteAt s 52 != 45) = true := by simpa using h3
    clear HNO h3 h2 h1
    go_enter Tryz.func87, Tryz.ntmps87
    go_wp2
    refine bodyPost_ret (results_tmp5 rfl _ _ _) rfl ⟨by rw [HN.out]; rfl, Below.refl _ _⟩
  have b3 : (byteAt s 52 != 45) = false := by simpa using h3
  have HN := hid (show splitOut s = .tuple #[Sv (s.take 2), Sv ((s.drop 3).take 32), Sv ((s.drop 36).take 16), Sv ((s.drop 53).take 2), .bool true] by unfold splitOut; rw [if_pos (by unfold splitOk; exact decide_eq_true ⟨by omega, h1, h2, h3⟩)]; rfl)
  clear HNO h1 h2 h3
  have q : 55 ≤ (s.length : Int) := by omega
  have q2 : 2 ≤ (s.length : Int) := by omega
  have q3 : 35 ≤ (s.length : Int) := by omega
  have q4 : 52 ≤ (s.length : Int) := by omega
  go_enter Tryz.func87, Tryz.ntmps87
  go_wp2_with fail
  go_quiet (fail)
  go_wp2
  refine bodyPost_ret (results_tmp5 rfl _ _ _) rfl ⟨by rw [HN.out]; rfl, ext_drewN _ _⟩
def oneV (s : List UInt8) : Int := match hexDec s with
  | some b => if b.length = 1 then byteAt b 0 else 0
  | none => 0
def oneOk (s : List UInt8) : Bool := match hexDec s with
  | some b => decide (b.length = 1)
  | none => false
theorem oneV_bd (s : List UInt8) : 0 ≤ oneV s ∧ oneV s ≤ 255 := by
  unfold oneV
  split
  · split
    · exact ⟨byteAt_lo _ _, byteAt_hi _ _⟩
    · omega
  · omega
set_option maxRecDepth 100000 in
set_option maxHeartbeats 1000000 in
theorem one_any (s : List UInt8) (w : World) (hs : s.length ≤ 140737488355328) :
    Calls Tryz.prog 88 #[Sv s] w fun e w' => e = .returned (.tuple #[.int .u8 (oneV s), .bool (oneOk s)]) ∧ Below w.heap.size w w' := by
  cases hd : hexDec s with
  | none =>
    have HO := hid (show hexOut s = .tuple #[Sv [], .int .i64 3] by unfold hexOut; rw [hd]; rfl)
    have H1 := hid (show oneV s = 0 by unfold oneV; rw [hd])
    have H2 := hid (show oneOk s = false by unfold oneOk; rw [hd])
    clear hd
    go_enter Tryz.func88, Tryz.ntmps88
    go_wp2_with fail
    refine (hread_any s _ hs).mono ?_; rintro e w1 ⟨rfl, hb1⟩
    rw [HO.out]
    go_wp2
    go_ret2
    exact ⟨by rw [H1.out, H2.out]; rfl, hb1⟩
  | some b =>
    have HO := hid (show hexOut s = .tuple #[Sv b, .int .i64 0] by unfold hexOut; rw [hd]; rfl)
    have hl2 := hexDec_length s b hd
    have hbl : b.length ≤ 140737488355328 := by omega
    by_cases hl : b.length = 1
    · have H1 := hid (show oneV s = byteAt b 0 by unfold oneV; rw [hd]; simp only []; rw [if_pos hl])
      have H2 := hid (show oneOk s = true by unfold oneOk; rw [hd]; simp only []; rw [decide_eq_true hl])
      have h1 : ((b.length : Int) != 1) = false := by rw [hl]; rfl
      have h0 : 0 < b.length := by omega
      clear hd hl hl2
      go_enter Tryz.func88, Tryz.ntmps88
      go_wp2_with fail
      refine (hread_any s _ hs).mono ?_; rintro e w1 ⟨rfl, hb1⟩
      rw [HO.out]
      go_wp2
      go_ret2
      exact ⟨by rw [H1.out, H2.out]; rfl, hb1⟩
    · have H1 := hid (show oneV s = 0 by unfold oneV; rw [hd]; simp only []; rw [if_neg hl])
      have H2 := hid (show oneOk s = false by unfold oneOk; rw [hd]; simp only []; rw [decide_eq_false hl])
      have h1 : ((b.length : Int) != 1) = true := by rw [bne_iff_ne]; omega
      clear hd hl hl2
      go_enter Tryz.func88, Tryz.ntmps88
      go_wp2_with fail
      refine (hread_any s _ hs).mono ?_; rintro e w1 ⟨rfl, hb1⟩
      rw [HO.out]
      go_wp2
      go_ret2
      exact ⟨by rw [H1.out, H2.out]; rfl, hb1⟩
end Go.Proofs.YtgfdmdikiickpaaGreatDoor

/-! ParentRead -/
namespace Go.Proofs.YtgfdmdikiickpaaGreatDoor
open Go.RowKit

theorem and1_fin : ∀ n : Fin 256, bits .and .u8 (n.val : Int) 1 = (n.val : Int) % 2 := by decide +kernel
theorem u8_and1 (f : Int) (h0 : 0 ≤ f) (h1 : f ≤ 255) : bits .and .u8 f 1 = f % 2 := by
  have := and1_fin ⟨f.toNat, by omega⟩
  rw [show ((f.toNat : Nat) : Int) = f by omega] at this
  exact this
/-- What is read as a header. -/
def hBad (c : Int) : Int × List UInt8 × List UInt8 × Int × Int := (0, zb 16, zb 8, 0, c)
def verBad (s : List UInt8) : Prop := oneV (pV s) = 255 ∨ (oneV (pV s) = 0 ∧ 55 < s.length) ∨ (55 < s.length ∧ byteAt s 55 ≠ 45)
instance (s : List UInt8) : Decidable (verBad s) := by unfold verBad; infer_instance
def readH (s : List UInt8) : Int × List UInt8 × List UInt8 × Int × Int :=
  if splitOk s = true then
    if oneOk (pV s) = true ∧ oneOk (pF s) = true then
      if verBad s then hBad 15
      else if traceC (pT s) = 3 ∨ spanC (pX s) = 3 then hBad 3
      else if traceC (pT s) = 0 ∧ spanC (pX s) = 0 then (oneV (pV s), traceT (pT s), spanT (pX s), if 0 < oneV (pV s) then oneV (pF s) % 2 else oneV (pF s), 0)
      else hBad 10
    else hBad 3
  else hBad 3
def hdrOut (r : Int × List UInt8 × List UInt8 × Int × Int) : Value := .tuple #[Hv r.1 r.2.1 r.2.2.1 r.2.2.2.1, .int .i64 r.2.2.2.2]
theorem hdrOut_bad (c : Int) : hdrOut (hBad c) = .tuple #[Hv 0 (zb 16) (zb 8) 0, .int .i64 c] := rfl
set_option maxRecDepth 100000 in
set_option maxHeartbeats 8000000 in
theorem pread_any (s : List UInt8) (w : World) (hs : s.length ≤ 140737488355328) :
    Calls Tryz.prog 56 #[Sv s] w fun e w' => e = .returned (hdrOut (readH s)) ∧ Below w.heap.size w w' := by
  cases hsp : splitOk s with
  | false =>
    have HS := hid (show splitOut s = .tuple #[Sv [], Sv [], Sv [], Sv [], .bool false] by unfold splitOut; rw [hsp]; rfl)
    have HR := hid (show hdrOut (readH s) = .tuple #[Hv 0 (zb 16) (zb 8) 0, .int .i64 3] by rw [← hdrOut_bad]; unfold readH; rw [hsp]; rfl)
    clear hsp
    go_enter Tryz.func56, Tryz.ntmps56
    go_wp2_with fail
    refine (split_any s _ (by omega)).mono ?_; rintro e w1 ⟨rfl, hb1⟩
    rw [HS.out]
    obtain ⟨hA, hB, z0, z1, hbw⟩ := box2 hb1
    have HA : Hid (Blk w1 w.heap.size 84 (hc 0 (zb 16) (zb 8) 0).toArray) := hA
    have HB : Hid (Blk w1 (w.heap.size + 1) 84 (hc 0 (zb 16) (zb 8) 0).toArray) := hB
    have HBW := hid hbw
    clear hA hB hbw hb1
    go_wp2_with (first
      | (refine wpList_load_hv rfl 84 (.tmp 4) rfl (w.heap.size + 1) _ _ 0 0 (zb 16) (zb 8) rfl HB.out Tryz.underlying84 rfl info_hdr (zb_length _) (zb_length _) ?_)
      | (refine wpList_store_hv rfl 84 (.tmp 2) (.tmp 29) rfl w.heap.size _ 0 0 0 0 (zb 16) (zb 8) (zb 16) (zb 8) rfl rfl HA.out info_hdr (zb_length _) (zb_length _) (zb_length _) (zb_length _) ?_; intro w9 hw9 hA9; have HA9 := hid hA9; have HW9 := hid hw9; clear hw9 hA9))
    exact bodyPost_ret (results_hv2 rfl _ _ _ _ _ 0 0 (zb 16) (zb 8) rfl HA9.out Tryz.underlying84 rfl info_hdr (zb_length _) (zb_length _)) rfl ⟨by rw [HR.out]; rfl, by rw [HW9.out]; exact setRow_below HBW.out (Nat.le_refl _) _⟩

  | true =>
    have HS := hid (show splitOut s = .tuple #[Sv (pV s), Sv (pT s), Sv (pX s), Sv (pF s), .bool true] by unfold splitOut; rw [if_pos hsp])
    have hR1 : readH s = if oneOk (pV s) = true ∧ oneOk (pF s) = true then
      if verBad s then hBad 15
      else if traceC (pT s) = 3 ∨ spanC (pX s) = 3 then hBad 3
      else if traceC (pT s) = 0 ∧ spanC (pX s) = 0 then (oneV (pV s), traceT (pT s), spanT (pX s), if 0 < oneV (pV s) then oneV (pF s) % 2 else oneV (pF s), 0)
      else hBad 10
    else hBad 3 := by unfold readH; rw [if_pos hsp]
    have hl55 : 55 ≤ s.length := by
      have := hsp; unfold splitOk at this; exact (of_decide_eq_true this).1
    obtain ⟨v0, v1⟩ := oneV_bd (pV s)
    obtain ⟨f0, f1⟩ := oneV_bd (pF s)
    clear hsp
    cases hv : oneOk (pV s) with
    | false =>
      have HR := hid (show hdrOut (readH s) = .tuple #[Hv 0 (zb 16) (zb 8) 0, .int .i64 3] by rw [← hdrOut_bad, hR1, if_neg (by rw [hv]; simp)])
      clear hR1
      go_enter Tryz.func56, Tryz.ntmps56
      go_wp2_with fail
      refine (split_any s _ (by omega)).mono ?_; rintro e w1 ⟨rfl, hb1⟩
      rw [HS.out]
      obtain ⟨hA, hB, z0, z1, hbw⟩ := box2 hb1
      have HA : Hid (Blk w1 w.heap.size 84 (hc 0 (zb 16) (zb 8) 0).toArray) := hA
      have HB : Hid (Blk w1 (w.heap.size + 1) 84 (hc 0 (zb 16) (zb 8) 0).toArray) := hB
      have HBW := hid hbw
      clear hA hB hbw hb1
      go_wp2_with fail
      refine (one_any (pV s) _ (by unfold pV; simp; omega)).mono ?_; rintro e w2 ⟨rfl, hb2⟩
      go_wp2_with fail
      refine (one_any (pF s) _ (by unfold pF; simp; omega)).mono ?_; rintro e w3 ⟨rfl, hb3⟩
      have HA3 := hid (HA.out.below (ext_trans hb2 hb3) HA.out.lt)
      have HB3 := hid (HB.out.below (ext_trans hb2 hb3) HB.out.lt)
      have HBW3 := hid (ext_trans HBW.out (ext_trans hb2 hb3))
      clear hb2 hb3
      go_wp2_with (first
        | (refine wpList_load_hv rfl 84 (.tmp 4) rfl (w.heap.size + 1) _ _ 0 0 (zb 16) (zb 8) rfl HB3.out Tryz.underlying84 rfl info_hdr (zb_length _) (zb_length _) ?_)
        | (refine wpList_store_hv rfl 84 (.tmp 2) (.tmp 46) rfl w.heap.size _ 0 0 0 0 (zb 16) (zb 8) (zb 16) (zb 8) rfl rfl HA3.out info_hdr (zb_length _) (zb_length _) (zb_length _) (zb_length _) ?_; intro w9 hw9 hA9; have HA9 := hid hA9; have HW9 := hid hw9; clear hw9 hA9))
      exact bodyPost_ret (results_hv2 rfl _ _ _ _ _ 0 0 (zb 16) (zb 8) rfl HA9.out Tryz.underlying84 rfl info_hdr (zb_length _) (zb_length _)) rfl ⟨by rw [HR.out]; rfl, by rw [HW9.out]; exact setRow_below HBW3.out (Nat.le_refl _) _⟩

    | true =>
      cases hf : oneOk (pF s) with
      | false =>
        have HR := hid (show hdrOut (readH s) = .tuple #[Hv 0 (zb 16) (zb 8) 0, .int .i64 3] by rw [← hdrOut_bad, hR1, if_neg (by rw [hf]; simp)])
        clear hR1
        go_enter Tryz.func56, Tryz.ntmps56
        go_wp2_with fail
        refine (split_any s _ (by omega)).mono ?_; rintro e w1 ⟨rfl, hb1⟩
        rw [HS.out]
        obtain ⟨hA, hB, z0, z1, hbw⟩ := box2 hb1
        have HA : Hid (Blk w1 w.heap.size 84 (hc 0 (zb 16) (zb 8) 0).toArray) := hA
        have HB : Hid (Blk w1 (w.heap.size + 1) 84 (hc 0 (zb 16) (zb 8) 0).toArray) := hB
        have HBW := hid hbw
        clear hA hB hbw hb1
        go_wp2_with fail
        refine (one_any (pV s) _ (by unfold pV; simp; omega)).mono ?_; rintro e w2 ⟨rfl, hb2⟩
        go_wp2_with fail
        refine (one_any (pF s) _ (by unfold pF; simp; omega)).mono ?_; rintro e w3 ⟨rfl, hb3⟩
        have HA3 := hid (HA.out.below (ext_trans hb2 hb3) HA.out.lt)
        have HB3 := hid (HB.out.below (ext_trans hb2 hb3) HB.out.lt)
        have HBW3 := hid (ext_trans HBW.out (ext_trans hb2 hb3))
        clear hb2 hb3
        go_wp2_with (first
          | (refine wpList_load_hv rfl 84 (.tmp 4) rfl (w.heap.size + 1) _ _ 0 0 (zb 16) (zb 8) rfl HB3.out Tryz.underlying84 rfl info_hdr (zb_length _) (zb_length _) ?_)
          | (refine wpList_store_hv rfl 84 (.tmp 2) (.tmp 46) rfl w.heap.size _ 0 0 0 0 (zb 16) (zb 8) (zb 16) (zb 8) rfl rfl HA3.out info_hdr (zb_length _) (zb_length _) (zb_length _) (zb_length _) ?_; intro w9 hw9 hA9; have HA9 := hid hA9; have HW9 := hid hw9; clear hw9 hA9))
        exact bodyPost_ret (results_hv2 rfl _ _ _ _ _ 0 0 (zb 16) (zb 8) rfl HA9.out Tryz.underlying84 rfl info_hdr (zb_length _) (zb_length _)) rfl ⟨by rw [HR.out]; rfl, by rw [HW9.out]; exact setRow_below HBW3.out (Nat.le_refl _) _⟩

      | true =>
        rw [if_pos ⟨hv, hf⟩] at hR1
        by_cases hb : verBad s
        · have HR := hid (show hdrOut (readH s) = .tuple #[Hv 0 (zb 16) (zb 8) 0, .int .i64 15] by rw [← hdrOut_bad, hR1, if_pos hb])
          clear hR1
          have hb2 : (oneV (pV s) == 255) = true ∨ ((oneV (pV s) == 255) = false ∧ (oneV (pV s) == 0) = true ∧ 55 < s.length) ∨ ((oneV (pV s) == 255) = false ∧ (oneV (pV s) == 0) = false ∧ 55 < s.length ∧ (byteAt s 55 != 45) = true) := by
            by_cases q1 : oneV (pV s) = 255
            · exact .inl (by simpa using q1)
            · by_cases q2 : oneV (pV s) = 0 ∧ 55 < s.length
              · exact .inr (.inl ⟨by simpa using q1, by simpa using q2.1, q2.2⟩)
              · have q3 : 55 < s.length ∧ byteAt s 55 ≠ 45 := by
                  rcases hb with h | h | h
                  · exact absurd h q1
                  · exact absurd h q2
                  · exact h
                exact .inr (.inr ⟨by simpa using q1, by simpa using fun h => q2 ⟨h, q3.1⟩, q3.1, by simpa using q3.2⟩)
          clear hb
          generalize hVV : oneV (pV s) = V at v0 v1 hb2
          have HVV := hid hVV
          clear hVV
          rcases hb2 with q1 | ⟨q1, q2, q3⟩ | ⟨q1, q2, q3, q4⟩
          · go_enter Tryz.func56, Tryz.ntmps56
            go_wp2_with fail
            refine (split_any s _ (by omega)).mono ?_; rintro e w1 ⟨rfl, hb1⟩
            rw [HS.out]
            obtain ⟨hA, hB, z0, z1, hbw⟩ := box2 hb1
            have HA : Hid (Blk w1 w.heap.size 84 (hc 0 (zb 16) (zb 8) 0).toArray) := hA
            have HB : Hid (Blk w1 (w.heap.size + 1) 84 (hc 0 (zb 16) (zb 8) 0).toArray) := hB
            have HBW := hid hbw
            clear hA hB hbw hb1
            go_wp2_with fail
            refine (one_any (pV s) _ (by unfold pV; simp; omega)).mono ?_; rintro e w2 ⟨rfl, hb2⟩
            rw [HVV.out]
            go_wp2_with fail
            refine (one_any (pF s) _ (by unfold pF; simp; omega)).mono ?_; rintro e w3 ⟨rfl, hb3⟩
            have HA3 := hid (HA.out.below (ext_trans hb2 hb3) HA.out.lt)
            have HB3 := hid (HB.out.below (ext_trans hb2 hb3) HB.out.lt)
            have HBW3 := hid (ext_trans HBW.out (ext_trans hb2 hb3))
            clear hb2 hb3
            go_wp2_with (first
              | (refine wpList_load_hv rfl 84 (.tmp 4) rfl (w.heap.size + 1) _ _ 0 0 (zb 16) (zb 8) rfl HB3.out Tryz.underlying84 rfl info_hdr (zb_length _) (zb_length _) ?_)
              | (refine wpList_store_hv rfl 84 (.tmp 2) (.tmp 68) rfl w.heap.size _ 0 0 0 0 (zb 16) (zb 8) (zb 16) (zb 8) rfl rfl HA3.out info_hdr (zb_length _) (zb_length _) (zb_length _) (zb_length _) ?_; intro w9 hw9 hA9; have HA9 := hid hA9; have HW9 := hid hw9; clear hw9 hA9))
            exact bodyPost_ret (results_hv2 rfl _ _ _ _ _ 0 0 (zb 16) (zb 8) rfl HA9.out Tryz.underlying84 rfl info_hdr (zb_length _) (zb_length _)) rfl ⟨by rw [HR.out]; rfl, by rw [HW9.out]; exact setRow_below HBW3.out (Nat.le_refl _) _⟩

          · go_enter Tryz.func56, Tryz.ntmps56
            go_wp2_with fail
            refine (split_any s _ (by omega)).mono ?_; rintro e w1 ⟨rfl, hb1⟩
            rw [HS.out]
            obtain ⟨hA, hB, z0, z1, hbw⟩ := box2 hb1
            have HA : Hid (Blk w1 w.heap.size 84 (hc 0 (zb 16) (zb 8) 0).toArray) := hA
            have HB : Hid (Blk w1 (w.heap.size + 1) 84 (hc 0 (zb 16) (zb 8) 0).toArray) := hB
            have HBW := hid hbw
            clear hA hB hbw hb1
            go_wp2_with fail
            refine (one_any (pV s) _ (by unfold pV; simp; omega)).mono ?_; rintro e w2 ⟨rfl, hb2⟩
            rw [HVV.out]
            go_wp2_with fail
            refine (one_any (pF s) _ (by unfold pF; simp; omega)).mono ?_; rintro e w3 ⟨rfl, hb3⟩
            have HA3 := hid (HA.out.below (ext_trans hb2 hb3) HA.out.lt)
            have HB3 := hid (HB.out.below (ext_trans hb2 hb3) HB.out.lt)
            have HBW3 := hid (ext_trans HBW.out (ext_trans hb2 hb3))
            clear hb2 hb3
            go_wp2_with (first
              | (refine wpList_load_hv rfl 84 (.tmp 4) rfl (w.heap.size + 1) _ _ 0 0 (zb 16) (zb 8) rfl HB3.out Tryz.underlying84 rfl info_hdr (zb_length _) (zb_length _) ?_)
              | (refine wpList_store_hv rfl 84 (.tmp 2) (.tmp 68) rfl w.heap.size _ 0 0 0 0 (zb 16) (zb 8) (zb 16) (zb 8) rfl rfl HA3.out info_hdr (zb_length _) (zb_length _) (zb_length _) (zb_length _) ?_; intro w9 hw9 hA9; have HA9 := hid hA9; have HW9 := hid hw9; clear hw9 hA9))
            exact bodyPost_ret (results_hv2 rfl _ _ _ _ _ 0 0 (zb 16) (zb 8) rfl HA9.out Tryz.underlying84 rfl info_hdr (zb_length _) (zb_length _)) rfl ⟨by rw [HR.out]; rfl, by rw [HW9.out]; exact setRow_below HBW3.out (Nat.le_refl _) _⟩

          · go_enter Tryz.func56, Tryz.ntmps56
            go_wp2_with fail
            refine (split_any s _ (by omega)).mono ?_; rintro e w1 ⟨rfl, hb1⟩
            rw [HS.out]
            obtain ⟨hA, hB, z0, z1, hbw⟩ := box2 hb1
            have HA : Hid (Blk w1 w.heap.size 84 (hc 0 (zb 16) (zb 8) 0).toArray) := hA
            have HB : Hid (Blk w1 (w.heap.size + 1) 84 (hc 0 (zb 16) (zb 8) 0).toArray) := hB
            have HBW := hid hbw
            clear hA hB hbw hb1
            go_wp2_with fail
            refine (one_any (pV s) _ (by unfold pV; simp; omega)).mono ?_; rintro e w2 ⟨rfl, hb2⟩
            rw [HVV.out]
            go_wp2_with fail
            refine (one_any (pF s) _ (by unfold pF; simp; omega)).mono ?_; rintro e w3 ⟨rfl, hb3⟩
            have HA3 := hid (HA.out.below (ext_trans hb2 hb3) HA.out.lt)
            have HB3 := hid (HB.out.below (ext_trans hb2 hb3) HB.out.lt)
            have HBW3 := hid (ext_trans HBW.out (ext_trans hb2 hb3))
            clear hb2 hb3
            go_wp2_with (first
              | (refine wpList_load_hv rfl 84 (.tmp 4) rfl (w.heap.size + 1) _ _ 0 0 (zb 16) (zb 8) rfl HB3.out Tryz.underlying84 rfl info_hdr (zb_length _) (zb_length _) ?_)
              | (refine wpList_store_hv rfl 84 (.tmp 2) (.tmp 68) rfl w.heap.size _ 0 0 0 0 (zb 16) (zb 8) (zb 16) (zb 8) rfl rfl HA3.out info_hdr (zb_length _) (zb_length _) (zb_length _) (zb_length _) ?_; intro w9 hw9 hA9; have HA9 := hid hA9; have HW9 := hid hw9; clear hw9 hA9))
            exact bodyPost_ret (results_hv2 rfl _ _ _ _ _ 0 0 (zb 16) (zb 8) rfl HA9.out Tryz.underlying84 rfl info_hdr (zb_length _) (zb_length _)) rfl ⟨by rw [HR.out]; rfl, by rw [HW9.out]; exact setRow_below HBW3.out (Nat.le_refl _) _⟩

        · rw [if_neg hb] at hR1
          have hok : (oneV (pV s) == 255) = false ∧ (((oneV (pV s) == 0) = true ∧ oneV (pV s) ≤ 0 ∧ s.length ≤ 55) ∨ ((oneV (pV s) == 0) = false ∧ 0 < oneV (pV s) ∧ s.length ≤ 55) ∨ ((oneV (pV s) == 0) = false ∧ 0 < oneV (pV s) ∧ 55 < s.length ∧ (byteAt s 55 != 45) = false)) := by
            unfold verBad at hb
            have n1 : oneV (pV s) ≠ 255 := fun h => hb (.inl h)
            refine ⟨by simpa using n1, ?_⟩
            by_cases q2 : oneV (pV s) = 0
            · exact .inl ⟨by simpa using q2, by omega, by have := fun h => hb (.inr (.inl ⟨q2, h⟩)); omega⟩
            · by_cases q3 : 55 < s.length
              · exact .inr (.inr ⟨by simpa using q2, by omega, q3, by have := fun h => hb (.inr (.inr ⟨q3, h⟩)); simpa using this⟩)
              · exact .inr (.inl ⟨by simpa using q2, by omega, by omega⟩)
          clear hb
          obtain ⟨q1, hok⟩ := hok
          have HTL := hid (traceT_length (pT s))
          have HXL := hid (spanT_length (pX s))
          generalize hVV : oneV (pV s) = V at v0 v1 q1 hok hR1
          generalize hFF : oneV (pF s) = F at f0 f1 hR1
          generalize hcc : traceC (pT s) = c at hR1
          generalize hdd : spanC (pX s) = d at hR1
          generalize hTT : traceT (pT s) = T at hR1 HTL
          generalize hXX : spanT (pX s) = X at hR1 HXL
          have HVV := hid hVV
          have HFF := hid hFF
          have HCC := hid hcc
          have HDD := hid hdd
          have HTT := hid hTT
          have HXX := hid hXX
          clear hVV hFF hcc hdd hTT hXX
          have cases5 : (c = 3) ∨ (c ≠ 3 ∧ d = 3) ∨ (c ≠ 3 ∧ d ≠ 3 ∧ c ≠ 0) ∨ (c ≠ 3 ∧ d ≠ 3 ∧ c = 0 ∧ d ≠ 0) ∨ (c ≠ 3 ∧ d ≠ 3 ∧ c = 0 ∧ d = 0) := by omega
          have HR1 := hid hR1
          clear hR1
          have i0 : ∀ u, (Instr.index 136 (.agg #[.int .i64 c, .int .i64 d]) (.int .i64 0)).run Tryz.prog u = .ok (.int .i64 c) u := fun _ => by kernel_rfl
          have i1 : ∀ u, (Instr.index 136 (.agg #[.int .i64 c, .int .i64 d]) (.int .i64 1)).run Tryz.prog u = .ok (.int .i64 d) u := fun _ => by kernel_rfl
          rcases cases5 with k1 | ⟨k1, k2⟩ | ⟨k1, k2, k3⟩ | ⟨k1, k2, k3, k4⟩ | ⟨k1, k2, k3, k4⟩
          · have HR := hid (show hdrOut (readH s) = .tuple #[Hv 0 (zb 16) (zb 8) 0, .int .i64 3] by rw [← hdrOut_bad, HR1.out, if_pos (.inl k1)])
            have c3 : (c == 3) = true := by simpa using k1
            have HK := hid k1
            clear k1
            rcases hok with ⟨m1, m2, m3⟩ | ⟨m1, m2, m3⟩ | ⟨m1, m2, m3, m4⟩
            all_goals
              go_enter Tryz.func56, Tryz.ntmps56
              go_wp2_with fail
              refine (split_any s _ (by omega)).mono ?_; rintro e w1 ⟨rfl, hb1⟩
              rw [HS.out]
              obtain ⟨hA, hB, z0, z1, hbw⟩ := box2 hb1
              have HA : Hid (Blk w1 w.heap.size 84 (hc 0 (zb 16) (zb 8) 0).toArray) := hA
              have HB : Hid (Blk w1 (w.heap.size + 1) 84 (hc 0 (zb 16) (zb 8) 0).toArray) := hB
              have HBW := hid hbw
              clear hA hB hbw hb1
              go_wp2_with fail
              refine (one_any (pV s) _ (by unfold pV; simp; omega)).mono ?_; rintro e w2 ⟨rfl, hb2⟩
              rw [HVV.out]
              go_wp2_with fail
              refine (one_any (pF s) _ (by unfold pF; simp; omega)).mono ?_; rintro e w3 ⟨rfl, hb3⟩
              rw [HFF.out]
              have HA3 := hid (HA.out.below (ext_trans hb2 hb3) HA.out.lt)
              have HB3 := hid (HB.out.below (ext_trans hb2 hb3) HB.out.lt)
              have HBW3 := hid (ext_trans HBW.out (ext_trans hb2 hb3))
              clear hb2 hb3
              go_wp2_with fail
              refine (readtrace_any (pT s) _ (by unfold pT; simp; omega)).mono ?_; rintro e w4 ⟨rfl, hb4⟩
              rw [HTT.out, HCC.out]
              go_wp2_with (refine wpList_store_av rfl 27 (.tmp 13) (.tmp 72) rfl _ 16 T (zb 16) _ rfl rfl (Blk.new _ _ _) info_trace HTL.out (zb_length _) ?_; intro w5 hw5 hT5; have HT5 := hid hT5; have HE5 : Hid (Below w4.heap.size w4 w5) := (by rw [hw5]; exact setRow_below (ext_alloc w4 _) (Nat.le_refl _) _); clear hw5 hT5)
              refine (readspan_any (pX s) _ (by unfold pX; simp; omega)).mono ?_; rintro e w6 ⟨rfl, hb6⟩
              rw [HXX.out, HDD.out]
              go_wp2_with (refine wpList_store_av rfl 29 (.tmp 15) (.tmp 77) rfl _ 8 X (zb 8) _ rfl rfl (Blk.new _ _ _) info_span HXL.out (zb_length _) ?_; intro w7 hw7 hX7; have HX7 := hid hX7; have HE7 : Hid (Below w6.heap.size w6 w7) := (by rw [hw7]; exact setRow_below (ext_alloc w6 _) (Nat.le_refl _) _); clear hw7 hX7)
              have B37 := hid (ext_trans (ext_trans hb4 HE5.out) (ext_trans hb6 HE7.out))
              have HA7 := hid (HA3.out.below B37.out HA3.out.lt)
              have HB7 := hid (HB3.out.below B37.out HB3.out.lt)
              have HT7 := hid (HT5.out.below (ext_trans hb6 HE7.out) HT5.out.lt)
              have HBW7 := hid (ext_trans HBW3.out B37.out)
              clear hb4 hb6
              go_loop [82] (fun i => i = .int .i64 0) (fun i => 2 - (intOf i).toNat)
              case atStart => exact rfl
              case round =>
                subst hrel
                go_wp2_with (first
                  | (refine wpList_load_hv rfl 84 (.tmp 4) rfl (w.heap.size + 1) _ _ 0 0 (zb 16) (zb 8) rfl HB7.out Tryz.underlying84 rfl info_hdr (zb_length _) (zb_length _) ?_)
                  | (refine wpList_store_hv rfl 84 (.tmp 2) (.tmp 87) rfl w.heap.size _ 0 0 0 0 (zb 16) (zb 8) (zb 16) (zb 8) rfl rfl HA7.out info_hdr (zb_length _) (zb_length _) (zb_length _) (zb_length _) ?_; intro w9 hw9 hA9; have HA9 := hid hA9; have HW9 := hid hw9; clear hw9 hA9))
                exact bodyPost_ret (results_hv2 rfl _ _ _ _ _ 0 0 (zb 16) (zb 8) rfl HA9.out Tryz.underlying84 rfl info_hdr (zb_length _) (zb_length _)) rfl ⟨by rw [HR.out, ← HK.out]; rfl, by rw [HW9.out]; exact setRow_below HBW7.out (Nat.le_refl _) _⟩

          · have HR := hid (show hdrOut (readH s) = .tuple #[Hv 0 (zb 16) (zb 8) 0, .int .i64 3] by rw [← hdrOut_bad, HR1.out, if_pos (.inr k2)])
            have c3 : (c == 3) = false := by simpa using k1
            have d3 : (d == 3) = true := by simpa using k2
            have HK := hid k2
            clear k1 k2
            rcases hok with ⟨m1, m2, m3⟩ | ⟨m1, m2, m3⟩ | ⟨m1, m2, m3, m4⟩
            all_goals
              go_enter Tryz.func56, Tryz.ntmps56
              go_wp2_with fail
              refine (split_any s _ (by omega)).mono ?_; rintro e w1 ⟨rfl, hb1⟩
              rw [HS.out]
              obtain ⟨hA, hB, z0, z1, hbw⟩ := box2 hb1
              have HA : Hid (Blk w1 w.heap.size 84 (hc 0 (zb 16) (zb 8) 0).toArray) := hA
              have HB : Hid (Blk w1 (w.heap.size + 1) 84 (hc 0 (zb 16) (zb 8) 0).toArray) := hB
              have HBW := hid hbw
              clear hA hB hbw hb1
              go_wp2_with fail
              refine (one_any (pV s) _ (by unfold pV; simp; omega)).mono ?_; rintro e w2 ⟨rfl, hb2⟩
              rw [HVV.out]
              go_wp2_with fail
              refine (one_any (pF s) _ (by unfold pF; simp; omega)).mono ?_; rintro e w3 ⟨rfl, hb3⟩
              rw [HFF.out]
              have HA3 := hid (HA.out.below (ext_trans hb2 hb3) HA.out.lt)
              have HB3 := hid (HB.out.below (ext_trans hb2 hb3) HB.out.lt)
              have HBW3 := hid (ext_trans HBW.out (ext_trans hb2 hb3))
              clear hb2 hb3
              go_wp2_with fail
              refine (readtrace_any (pT s) _ (by unfold pT; simp; omega)).mono ?_; rintro e w4 ⟨rfl, hb4⟩
              rw [HTT.out, HCC.out]
              go_wp2_with (refine wpList_store_av rfl 27 (.tmp 13) (.tmp 72) rfl _ 16 T (zb 16) _ rfl rfl (Blk.new _ _ _) info_trace HTL.out (zb_length _) ?_; intro w5 hw5 hT5; have HT5 := hid hT5; have HE5 : Hid (Below w4.heap.size w4 w5) := (by rw [hw5]; exact setRow_below (ext_alloc w4 _) (Nat.le_refl _) _); clear hw5 hT5)
              refine (readspan_any (pX s) _ (by unfold pX; simp; omega)).mono ?_; rintro e w6 ⟨rfl, hb6⟩
              rw [HXX.out, HDD.out]
              go_wp2_with (refine wpList_store_av rfl 29 (.tmp 15) (.tmp 77) rfl _ 8 X (zb 8) _ rfl rfl (Blk.new _ _ _) info_span HXL.out (zb_length _) ?_; intro w7 hw7 hX7; have HX7 := hid hX7; have HE7 : Hid (Below w6.heap.size w6 w7) := (by rw [hw7]; exact setRow_below (ext_alloc w6 _) (Nat.le_refl _) _); clear hw7 hX7)
              have B37 := hid (ext_trans (ext_trans hb4 HE5.out) (ext_trans hb6 HE7.out))
              have HA7 := hid (HA3.out.below B37.out HA3.out.lt)
              have HB7 := hid (HB3.out.below B37.out HB3.out.lt)
              have HT7 := hid (HT5.out.below (ext_trans hb6 HE7.out) HT5.out.lt)
              have HBW7 := hid (ext_trans HBW3.out B37.out)
              clear hb4 hb6
              go_loop [82] (fun i => i = .int .i64 0 ∨ i = .int .i64 1) (fun i => 2 - (intOf i).toNat)
              case atStart => exact .inl rfl
              case round =>
                rcases hrel with rfl | rfl
                · go_wp2_with fail
                  go_round
                  case rel => exact .inr rfl
                  case measure => simp [intOf]
                · go_wp2_with (first
                    | (refine wpList_load_hv rfl 84 (.tmp 4) rfl (w.heap.size + 1) _ _ 0 0 (zb 16) (zb 8) rfl HB7.out Tryz.underlying84 rfl info_hdr (zb_length _) (zb_length _) ?_)
                    | (refine wpList_store_hv rfl 84 (.tmp 2) (.tmp 87) rfl w.heap.size _ 0 0 0 0 (zb 16) (zb 8) (zb 16) (zb 8) rfl rfl HA7.out info_hdr (zb_length _) (zb_length _) (zb_length _) (zb_length _) ?_; intro w9 hw9 hA9; have HA9 := hid hA9; have HW9 := hid hw9; clear hw9 hA9))
                  exact bodyPost_ret (results_hv2 rfl _ _ _ _ _ 0 0 (zb 16) (zb 8) rfl HA9.out Tryz.underlying84 rfl info_hdr (zb_length _) (zb_length _)) rfl ⟨by rw [HR.out, ← HK.out]; rfl, by rw [HW9.out]; exact setRow_below HBW7.out (Nat.le_refl _) _⟩

          · have HR := hid (show hdrOut (readH s) = .tuple #[Hv 0 (zb 16) (zb 8) 0, .int .i64 10] by rw [← hdrOut_bad, HR1.out, if_neg (by omega), if_neg (by omega)])
            have c3 : (c == 3) = false := by simpa using k1
            have d3 : (d == 3) = false := by simpa using k2
            have c0 : (c != 0) = true := by simpa using k3
            clear k1 k2 k3
            rcases hok with ⟨m1, m2, m3⟩ | ⟨m1, m2, m3⟩ | ⟨m1, m2, m3, m4⟩
            all_goals
              go_enter Tryz.func56, Tryz.ntmps56
              go_wp2_with fail
              refine (split_any s _ (by omega)).mono ?_; rintro e w1 ⟨rfl, hb1⟩
              rw [HS.out]
              obtain ⟨hA, hB, z0, z1, hbw⟩ := box2 hb1
              have HA : Hid (Blk w1 w.heap.size 84 (hc 0 (zb 16) (zb 8) 0).toArray) := hA
              have HB : Hid (Blk w1 (w.heap.size + 1) 84 (hc 0 (zb 16) (zb 8) 0).toArray) := hB
              have HBW := hid hbw
              clear hA hB hbw hb1
              go_wp2_with fail
              refine (one_any (pV s) _ (by unfold pV; simp; omega)).mono ?_; rintro e w2 ⟨rfl, hb2⟩
              rw [HVV.out]
              go_wp2_with fail
              refine (one_any (pF s) _ (by unfold pF; simp; omega)).mono ?_; rintro e w3 ⟨rfl, hb3⟩
              rw [HFF.out]
              have HA3 := hid (HA.out.below (ext_trans hb2 hb3) HA.out.lt)
              have HB3 := hid (HB.out.below (ext_trans hb2 hb3) HB.out.lt)
              have HBW3 := hid (ext_trans HBW.out (ext_trans hb2 hb3))
              clear hb2 hb3
              go_wp2_with fail
              refine (readtrace_any (pT s) _ (by unfold pT; simp; omega)).mono ?_; rintro e w4 ⟨rfl, hb4⟩
              rw [HTT.out, HCC.out]
              go_wp2_with (refine wpList_store_av rfl 27 (.tmp 13) (.tmp 72) rfl _ 16 T (zb 16) _ rfl rfl (Blk.new _ _ _) info_trace HTL.out (zb_length _) ?_; intro w5 hw5 hT5; have HT5 := hid hT5; have HE5 : Hid (Below w4.heap.size w4 w5) := (by rw [hw5]; exact setRow_below (ext_alloc w4 _) (Nat.le_refl _) _); clear hw5 hT5)
              refine (readspan_any (pX s) _ (by unfold pX; simp; omega)).mono ?_; rintro e w6 ⟨rfl, hb6⟩
              rw [HXX.out, HDD.out]
              go_wp2_with (refine wpList_store_av rfl 29 (.tmp 15) (.tmp 77) rfl _ 8 X (zb 8) _ rfl rfl (Blk.new _ _ _) info_span HXL.out (zb_length _) ?_; intro w7 hw7 hX7; have HX7 := hid hX7; have HE7 : Hid (Below w6.heap.size w6 w7) := (by rw [hw7]; exact setRow_below (ext_alloc w6 _) (Nat.le_refl _) _); clear hw7 hX7)
              have B37 := hid (ext_trans (ext_trans hb4 HE5.out) (ext_trans hb6 HE7.out))
              have HA7 := hid (HA3.out.below B37.out HA3.out.lt)
              have HB7 := hid (HB3.out.below B37.out HB3.out.lt)
              have HT7 := hid (HT5.out.below (ext_trans hb6 HE7.out) HT5.out.lt)
              have HBW7 := hid (ext_trans HBW3.out B37.out)
              clear hb4 hb6
              go_loop [82] (fun i => i = .int .i64 0 ∨ i = .int .i64 1 ∨ i = .int .i64 2) (fun i => 2 - (intOf i).toNat)
              case atStart => exact .inl rfl
              case round =>
                rcases hrel with rfl | rfl | rfl
                · go_wp2_with fail
                  go_round
                  case rel => exact .inr (.inl rfl)
                  case measure => simp [intOf]
                · go_wp2_with fail
                  go_round
                  case rel => exact .inr (.inr rfl)
                  case measure => simp [intOf]
                · go_wp2_with (first
                    | (refine wpList_load_hv rfl 84 (.tmp 4) rfl (w.heap.size + 1) _ _ 0 0 (zb 16) (zb 8) rfl HB7.out Tryz.underlying84 rfl info_hdr (zb_length _) (zb_length _) ?_)
                    | (refine wpList_store_hv rfl 84 (.tmp 2) (.tmp 96) rfl w.heap.size _ 0 0 0 0 (zb 16) (zb 8) (zb 16) (zb 8) rfl rfl HA7.out info_hdr (zb_length _) (zb_length _) (zb_length _) (zb_length _) ?_; intro w9 hw9 hA9; have HA9 := hid hA9; have HW9 := hid hw9; clear hw9 hA9))
                  exact bodyPost_ret (results_hv2 rfl _ _ _ _ _ 0 0 (zb 16) (zb 8) rfl HA9.out Tryz.underlying84 rfl info_hdr (zb_length _) (zb_length _)) rfl ⟨by rw [HR.out]; rfl, by rw [HW9.out]; exact setRow_below HBW7.out (Nat.le_refl _) _⟩

          · have HR := hid (show hdrOut (readH s) = .tuple #[Hv 0 (zb 16) (zb 8) 0, .int .i64 10] by rw [← hdrOut_bad, HR1.out, if_neg (by omega), if_neg (by omega)])
            have c3 : (c == 3) = false := by simpa using k1
            have d3 : (d == 3) = false := by simpa using k2
            have c0 : (c != 0) = false := by simpa using k3
            have d0 : (d != 0) = true := by simpa using k4
            clear k1 k2 k3 k4
            rcases hok with ⟨m1, m2, m3⟩ | ⟨m1, m2, m3⟩ | ⟨m1, m2, m3, m4⟩
            all_goals
              go_enter Tryz.func56, Tryz.ntmps56
              go_wp2_with fail
              refine (split_any s _ (by omega)).mono ?_; rintro e w1 ⟨rfl, hb1⟩
              rw [HS.out]
              obtain ⟨hA, hB, z0, z1, hbw⟩ := box2 hb1
              have HA : Hid (Blk w1 w.heap.size 84 (hc 0 (zb 16) (zb 8) 0).toArray) := hA
              have HB : Hid (Blk w1 (w.heap.size + 1) 84 (hc 0 (zb 16) (zb 8) 0).toArray) := hB
              have HBW := hid hbw
              clear hA hB hbw hb1
              go_wp2_with fail
              refine (one_any (pV s) _ (by unfold pV; simp; omega)).mono ?_; rintro e w2 ⟨rfl, hb2⟩
              rw [HVV.out]
              go_wp2_with fail
              refine (one_any (pF s) _ (by unfold pF; simp; omega)).mono ?_; rintro e w3 ⟨rfl, hb3⟩
              rw [HFF.out]
              have HA3 := hid (HA.out.below (ext_trans hb2 hb3) HA.out.lt)
              have HB3 := hid (HB.out.below (ext_trans hb2 hb3) HB.out.lt)
              have HBW3 := hid (ext_trans HBW.out (ext_trans hb2 hb3))
              clear hb2 hb3
              go_wp2_with fail
              refine (readtrace_any (pT s) _ (by unfold pT; simp; omega)).mono ?_; rintro e w4 ⟨rfl, hb4⟩
              rw [HTT.out, HCC.out]
              go_wp2_with (refine wpList_store_av rfl 27 (.tmp 13) (.tmp 72) rfl _ 16 T (zb 16) _ rfl rfl (Blk.new _ _ _) info_trace HTL.out (zb_length _) ?_; intro w5 hw5 hT5; have HT5 := hid hT5; have HE5 : Hid (Below w4.heap.size w4 w5) := (by rw [hw5]; exact setRow_below (ext_alloc w4 _) (Nat.le_refl _) _); clear hw5 hT5)
              refine (readspan_any (pX s) _ (by unfold pX; simp; omega)).mono ?_; rintro e w6 ⟨rfl, hb6⟩
              rw [HXX.out, HDD.out]
              go_wp2_with (refine wpList_store_av rfl 29 (.tmp 15) (.tmp 77) rfl _ 8 X (zb 8) _ rfl rfl (Blk.new _ _ _) info_span HXL.out (zb_length _) ?_; intro w7 hw7 hX7; have HX7 := hid hX7; have HE7 : Hid (Below w6.heap.size w6 w7) := (by rw [hw7]; exact setRow_below (ext_alloc w6 _) (Nat.le_refl _) _); clear hw7 hX7)
              have B37 := hid (ext_trans (ext_trans hb4 HE5.out) (ext_trans hb6 HE7.out))
              have HA7 := hid (HA3.out.below B37.out HA3.out.lt)
              have HB7 := hid (HB3.out.below B37.out HB3.out.lt)
              have HT7 := hid (HT5.out.below (ext_trans hb6 HE7.out) HT5.out.lt)
              have HBW7 := hid (ext_trans HBW3.out B37.out)
              clear hb4 hb6
              go_loop [82] (fun i => i = .int .i64 0 ∨ i = .int .i64 1 ∨ i = .int .i64 2) (fun i => 2 - (intOf i).toNat)
              case atStart => exact .inl rfl
              case round =>
                rcases hrel with rfl | rfl | rfl
                · go_wp2_with fail
                  go_round
                  case rel => exact .inr (.inl rfl)
                  case measure => simp [intOf]
                · go_wp2_with fail
                  go_round
                  case rel => exact .inr (.inr rfl)
                  case measure => simp [intOf]
                · go_wp2_with (first
                    | (refine wpList_load_hv rfl 84 (.tmp 4) rfl (w.heap.size + 1) _ _ 0 0 (zb 16) (zb 8) rfl HB7.out Tryz.underlying84 rfl info_hdr (zb_length _) (zb_length _) ?_)
                    | (refine wpList_store_hv rfl 84 (.tmp 2) (.tmp 96) rfl w.heap.size _ 0 0 0 0 (zb 16) (zb 8) (zb 16) (zb 8) rfl rfl HA7.out info_hdr (zb_length _) (zb_length _) (zb_length _) (zb_length _) ?_; intro w9 hw9 hA9; have HA9 := hid hA9; have HW9 := hid hw9; clear hw9 hA9))
                  exact bodyPost_ret (results_hv2 rfl _ _ _ _ _ 0 0 (zb 16) (zb 8) rfl HA9.out Tryz.underlying84 rfl info_hdr (zb_length _) (zb_length _)) rfl ⟨by rw [HR.out]; rfl, by rw [HW9.out]; exact setRow_below HBW7.out (Nat.le_refl _) _⟩

          · have HR := hid (show hdrOut (readH s) = .tuple #[Hv V T X (if 0 < V then F % 2 else F), .int .i64 0] by rw [HR1.out, if_neg (by omega), if_pos ⟨k3, k4⟩]; rfl)
            have c3 : (c == 3) = false := by simpa using k1
            have d3 : (d == 3) = false := by simpa using k2
            have c0 : (c != 0) = false := by simpa using k3
            have d0 : (d != 0) = false := by simpa using k4
            have hand := u8_and1 F f0 f1
            clear k1 k2 k3 k4
            rcases hok with ⟨m1, m2, m3⟩ | ⟨m1, m2, m3⟩ | ⟨m1, m2, m3, m4⟩
            all_goals
              go_enter Tryz.func56, Tryz.ntmps56
              go_wp2_with fail
              refine (split_any s _ (by omega)).mono ?_; rintro e w1 ⟨rfl, hb1⟩
              rw [HS.out]
              obtain ⟨hA, hB, z0, z1, hbw⟩ := box2 hb1
              have HA : Hid (Blk w1 w.heap.size 84 (hc 0 (zb 16) (zb 8) 0).toArray) := hA
              have HB : Hid (Blk w1 (w.heap.size + 1) 84 (hc 0 (zb 16) (zb 8) 0).toArray) := hB
              have HBW := hid hbw
              clear hA hB hbw hb1
              go_wp2_with fail
              refine (one_any (pV s) _ (by unfold pV; simp; omega)).mono ?_; rintro e w2 ⟨rfl, hb2⟩
              rw [HVV.out]
              go_wp2_with fail
              refine (one_any (pF s) _ (by unfold pF; simp; omega)).mono ?_; rintro e w3 ⟨rfl, hb3⟩
              rw [HFF.out]
              have HA3 := hid (HA.out.below (ext_trans hb2 hb3) HA.out.lt)
              have HB3 := hid (HB.out.below (ext_trans hb2 hb3) HB.out.lt)
              have HBW3 := hid (ext_trans HBW.out (ext_trans hb2 hb3))
              clear hb2 hb3
              go_wp2_with fail
              refine (readtrace_any (pT s) _ (by unfold pT; simp; omega)).mono ?_; rintro e w4 ⟨rfl, hb4⟩
              rw [HTT.out, HCC.out]
              go_wp2_with (refine wpList_store_av rfl 27 (.tmp 13) (.tmp 72) rfl _ 16 T (zb 16) _ rfl rfl (Blk.new _ _ _) info_trace HTL.out (zb_length _) ?_; intro w5 hw5 hT5; have HT5 := hid hT5; have HE5 : Hid (Below w4.heap.size w4 w5) := (by rw [hw5]; exact setRow_below (ext_alloc w4 _) (Nat.le_refl _) _); clear hw5 hT5)
              refine (readspan_any (pX s) _ (by unfold pX; simp; omega)).mono ?_; rintro e w6 ⟨rfl, hb6⟩
              rw [HXX.out, HDD.out]
              go_wp2_with (refine wpList_store_av rfl 29 (.tmp 15) (.tmp 77) rfl _ 8 X (zb 8) _ rfl rfl (Blk.new _ _ _) info_span HXL.out (zb_length _) ?_; intro w7 hw7 hX7; have HX7 := hid hX7; have HE7 : Hid (Below w6.heap.size w6 w7) := (by rw [hw7]; exact setRow_below (ext_alloc w6 _) (Nat.le_refl _) _); clear hw7 hX7)
              have B37 := hid (ext_trans (ext_trans hb4 HE5.out) (ext_trans hb6 HE7.out))
              have HA7 := hid (HA3.out.below B37.out HA3.out.lt)
              have HB7 := hid (HB3.out.below B37.out HB3.out.lt)
              have HT7 := hid (HT5.out.below (ext_trans hb6 HE7.out) HT5.out.lt)
              have HBW7 := hid (ext_trans HBW3.out B37.out)
              clear hb4 hb6
              go_loop [82] (fun i => i = .int .i64 0 ∨ i = .int .i64 1 ∨ i = .int .i64 2) (fun i => 2 - (intOf i).toNat)
              case atStart => exact .inl rfl
              case round =>
                rcases hrel with rfl | rfl | rfl
                · go_wp2_with fail
                  go_round
                  case rel => exact .inr (.inl rfl)
                  case measure => simp [intOf]
                · go_wp2_with fail
                  go_round
                  case rel => exact .inr (.inr rfl)
                  case measure => simp [intOf]
                · go_wp2_with (first
                    | (refine wpList_load_av rfl 27 (.tmp 13) rfl _ 16 T _ rfl HT7.out Tryz.underlying27 info_trace HTL.out ?_)
                    | (refine wpList_load_av rfl 29 (.tmp 15) rfl _ 8 X _ rfl HX7.out Tryz.underlying29 info_span HXL.out ?_)
                    | (refine wpList_build4 rfl 84 0 1 2 3 (.tmp 101) (.tmp 102) (.tmp 103) (.tmp 104) rfl (.int .u8 V) (Av T) (Av X) (.int .u8 (F)) _ rfl rfl rfl rfl (built_full V (F) T X HTL.out HXL.out) ?_; change wpList _ _ _ _ (Act.put _ _ (Hv V T X (F))) _)
                    | (refine wpList_build4 rfl 84 0 1 2 3 (.tmp 101) (.tmp 102) (.tmp 103) (.tmp 104) rfl (.int .u8 V) (Av T) (Av X) (.int .u8 (F % 2)) _ rfl rfl rfl rfl (built_full V (F % 2) T X HTL.out HXL.out) ?_; change wpList _ _ _ _ (Act.put _ _ (Hv V T X (F % 2))) _)
                    | (refine wpList_store_hv rfl 84 (.tmp 2) (.tmp 105) rfl w.heap.size _ V (F) 0 0 T X (zb 16) (zb 8) rfl rfl HA7.out info_hdr HTL.out HXL.out (zb_length _) (zb_length _) ?_; intro w9 hw9 hA9; have HA9 := hid hA9; have HW9 := hid hw9; clear hw9 hA9)
                    | (refine wpList_store_hv rfl 84 (.tmp 2) (.tmp 105) rfl w.heap.size _ V (F % 2) 0 0 T X (zb 16) (zb 8) rfl rfl HA7.out info_hdr HTL.out HXL.out (zb_length _) (zb_length _) ?_; intro w9 hw9 hA9; have HA9 := hid hA9; have HW9 := hid hw9; clear hw9 hA9))
                  first
                    | exact bodyPost_ret (results_hv2 rfl _ _ _ _ _ V F T X rfl HA9.out Tryz.underlying84 rfl info_hdr HTL.out HXL.out) rfl ⟨by rw [HR.out, if_neg (by omega)]; rfl, by rw [HW9.out]; exact setRow_below HBW7.out (Nat.le_refl _) _⟩
                    | exact bodyPost_ret (results_hv2 rfl _ _ _ _ _ V (F % 2) T X rfl HA9.out Tryz.underlying84 rfl info_hdr HTL.out HXL.out) rfl ⟨by rw [HR.out, if_pos (by omega)]; rfl, by rw [HW9.out]; exact setRow_below HBW7.out (Nat.le_refl _) _⟩

end Go.Proofs.YtgfdmdikiickpaaGreatDoor
