/-
  Texts for the laws of this seat, merged: Hdr, Parent, ParentRead.
-/
import Derived.Deep.MidRow
import Derived.BigFrame
import Derived.Deep.DeepCutAuto
import Derived.Test.YtgfdmdikiickpaaDoorMA
/-! Hdr -/
namespace Go.Proofs.YtgfdmdikiickpaaDoor
open Go.RowKit

/-- The cells of a header, and of a context. -/
def hc (v : Int) (t x : List UInt8) (f : Int) : List Value := [.int .u8 v] ++ b8s t ++ b8s x ++ [.int .u8 f]
def cc (t x p : List UInt8) (k : Int) : List Value := b8s t ++ b8s x ++ b8s p ++ [.int .i64 k]
def Hv (v : Int) (t x : List UInt8) (f : Int) : Value := .agg (hc v t x f).toArray
def Cv (t x p : List UInt8) (k : Int) : Value := .agg (cc t x p k).toArray
@[go_sem high] theorem cells_Hv (v : Int) (t x : List UInt8) (f : Int) : (Hv v t x f).cells = (hc v t x f).toArray := rfl
@[go_sem high] theorem cells_match_Hv (v : Int) (t x : List UInt8) (f : Int) : Value.cells.match_1 (fun _ => Array Value) (Hv v t x f) (fun cs => cs) (fun v => #[v]) = (hc v t x f).toArray := rfl
@[go_sem high] theorem cells_Cv (t x p : List UInt8) (k : Int) : (Cv t x p k).cells = (cc t x p k).toArray := rfl
@[go_sem high] theorem cells_match_Cv (t x p : List UInt8) (k : Int) : Value.cells.match_1 (fun _ => Array Value) (Cv t x p k) (fun cs => cs) (fun v => #[v]) = (cc t x p k).toArray := rfl
theorem len16 {t : List UInt8} (h : t.length = 16) : ∃ a0  a1  a2  a3  a4  a5  a6  a7  a8  a9  a10  a11  a12  a13  a14  a15, t = [a0, a1, a2, a3, a4, a5, a6, a7, a8, a9, a10, a11, a12, a13, a14, a15] := by
  match t, h with
  | [a0, a1, a2, a3, a4, a5, a6, a7, a8, a9, a10, a11, a12, a13, a14, a15], _ => exact ⟨a0, a1, a2, a3, a4, a5, a6, a7, a8, a9, a10, a11, a12, a13, a14, a15, rfl⟩
theorem len8 {t : List UInt8} (h : t.length = 8) : ∃ b0  b1  b2  b3  b4  b5  b6  b7, t = [b0, b1, b2, b3, b4, b5, b6, b7] := by
  match t, h with
  | [b0, b1, b2, b3, b4, b5, b6, b7], _ => exact ⟨b0, b1, b2, b3, b4, b5, b6, b7, rfl⟩
set_option maxRecDepth 100000 in
theorem built_ctx (k : Int) (t x : List UInt8) (ht : t.length = 16) (hx : x.length = 8) : Tryd.prog.built 29 [(0, Av t), (1, Av x), (3, .int .i64 k)] = some (cc t x (zb 8) k).toArray := by
  obtain ⟨a0, a1, a2, a3, a4, a5, a6, a7, a8, a9, a10, a11, a12, a13, a14, a15, rfl⟩ := len16 ht
  obtain ⟨b0, b1, b2, b3, b4, b5, b6, b7, rfl⟩ := len8 hx
  kernel_rfl
theorem info_ctx : (Tryd.prog.info? 29).map (·.size) = some 33 := by kernel_rfl
theorem guard_ctx : Tryd.prog.eqGuardType Tryd.prog.depth 29 = false := by kernel_rfl
theorem run_part_seg (w : World) (ty n off : Nat) (pre post : List Value) (l : List UInt8) (hty : Tryd.prog.underlying ty = some (.array n 5)) (hi : (Tryd.prog.info? ty).map (·.size) = some n) (hp : pre.length = off) (hl : l.length = n) :
    (part ty (pre ++ (b8s l ++ post)).toArray off).run Tryd.prog w = .ok (Av l) w := by
  cases hq : Tryd.prog.info? ty with
  | none => simp [hq] at hi
  | some i =>
    have hs : i.size = n := by simpa [hq] using hi
    have e2 : List.take n (List.drop off (pre ++ (b8s l ++ post))) = b8s l := by subst hp hl; simp
    simp only [part, isAgg, Sem.run_bind, run_underlying hty, sizeOf, typeInfo, hq, hs, Result.andThen_ok, Sem.run_pure]
    simp [hq, hs, e2]
    rfl
theorem run_load_seg {w : World} {g ty n off : Nat} {T : TypeId} {pre post : List Value} {l : List UInt8} (hb : Blk w g T (pre ++ (b8s l ++ post)).toArray) (hp : pre.length = off) : w.rangeAt g off (b8s l) := by
  intro j v hv
  rw [hb.cell (off + j), ← hv]
  have hj : j < (b8s l).length := by
    rcases Nat.lt_or_ge j (b8s l).length with h | h
    · exact h
    · rw [List.getElem?_eq_none h] at hv; cases hv
  subst hp
  simp only [List.getElem?_toArray]
  rw [List.getElem?_append_right (by omega), Nat.add_sub_cancel_left, List.getElem?_append_left hj]
theorem wpList_load_seg {ops : Array Oper} {rest : List Oper} {o : Oper} {a : Act} {w : World} {Q : Exit → Act → World → Prop} (hgd : o.guard = none) (ty : TypeId) (x : Operand) (ho : o.op = .load ty x)
    (g off n : Nat) (T : TypeId) (pre post : List Value) (l : List UInt8) (hx : a.eval x = .pointer (some ⟨g, off, none⟩)) (hb : Blk w g T (pre ++ (b8s l ++ post)).toArray) (hp : pre.length = off)
    (hty : Tryd.prog.underlying ty = some (.array n 5)) (hi : (Tryd.prog.info? ty).map (·.size) = some n) (hl : l.length = n)
    (h : wpList Tryd.prog ops Q rest (a.put o.dst (Av l)) w) : wpList Tryd.prog ops Q (o :: rest) a w :=
  wpList_load_mid hgd ty x ho g off hx (b8s l) _ (run_load_seg (n := n) (ty := ty) hb hp) hty rfl (by rw [hi]; simp [hl]) h
theorem wpList_load_hv {ops : Array Oper} {rest : List Oper} {o : Oper} {a : Act} {w : World} {Q : Exit → Act → World → Prop} (hgd : o.guard = none) (ty : TypeId) (x : Operand) (ho : o.op = .load ty x)
    (g : Nat) (T : TypeId) (d : TypeDesc) (v f : Int) (t s : List UInt8) (hx : a.eval x = .pointer (some ⟨g, 0, none⟩)) (hb : Blk w g T (hc v t s f).toArray)
    (hu : Tryd.prog.underlying ty = some d) (hd : d.isRow = true) (hi : (Tryd.prog.info? ty).map (·.size) = some 26) (ht : t.length = 16) (hs : s.length = 8)
    (h : wpList Tryd.prog ops Q rest (a.put o.dst (Hv v t s f)) w) : wpList Tryd.prog ops Q (o :: rest) a w :=
  wpList_load_mid hgd ty x ho g 0 hx (hc v t s f) d (fun j u hu => by rw [Nat.zero_add, hb.cell j, ← hu]; simp) hu hd (by rw [hi]; simp [hc, ht, hs]) h
theorem wpList_load_cv {ops : Array Oper} {rest : List Oper} {o : Oper} {a : Act} {w : World} {Q : Exit → Act → World → Prop} (hgd : o.guard = none) (ty : TypeId) (x : Operand) (ho : o.op = .load ty x)
    (g : Nat) (T : TypeId) (d : TypeDesc) (k : Int) (t s p : List UInt8) (hx : a.eval x = .pointer (some ⟨g, 0, none⟩)) (hb : Blk w g T (cc t s p k).toArray)
    (hu : Tryd.prog.underlying ty = some d) (hd : d.isRow = true) (hi : (Tryd.prog.info? ty).map (·.size) = some 33) (ht : t.length = 16) (hs : s.length = 8) (hp : p.length = 8)
    (h : wpList Tryd.prog ops Q rest (a.put o.dst (Cv t s p k)) w) : wpList Tryd.prog ops Q (o :: rest) a w :=
  wpList_load_mid hgd ty x ho g 0 hx (cc t s p k) d (fun j u hu => by rw [Nat.zero_add, hb.cell j, ← hu]; simp) hu hd (by rw [hi]; simp [cc, ht, hs, hp]) h
theorem hc_one (v f : Int) (t s : List UInt8) : (hc v t s f).toArray.all (·.oneCell') = true := by
  rw [Array.all_eq_true_iff_forall_mem]
  intro u hu
  simp only [hc, List.mem_toArray, List.mem_append, List.mem_singleton] at hu
  rcases hu with ((rfl | hu) | hu) | rfl
  · rfl
  · exact b8s_one t u hu
  · exact b8s_one s u hu
  · rfl
theorem cc_one (k : Int) (t s p : List UInt8) : (cc t s p k).toArray.all (·.oneCell') = true := by
  rw [Array.all_eq_true_iff_forall_mem]
  intro u hu
  simp only [cc, List.mem_toArray, List.mem_append, List.mem_singleton] at hu
  rcases hu with ((hu | hu) | hu) | rfl
  · exact b8s_one t u hu
  · exact b8s_one s u hu
  · exact b8s_one p u hu
  · rfl
theorem wpList_store_hv {ops : Array Oper} {rest : List Oper} {o : Oper} {a : Act} {w : World} {Q : Exit → Act → World → Prop} (hgd : o.guard = none) (ty : TypeId) (x y : Operand) (ho : o.op = .store ty x y)
    (g : Nat) (T : TypeId) (v f v0 f0 : Int) (t s t0 s0 : List UInt8) (hx : a.eval x = .pointer (some ⟨g, 0, none⟩)) (hy : a.eval y = Hv v t s f) (hb : Blk w g T (hc v0 t0 s0 f0).toArray)
    (hi : (Tryd.prog.info? ty).map (·.size) = some 26) (ht : t.length = 16) (hs : s.length = 8) (ht0 : t0.length = 16) (hs0 : s0.length = 8)
    (h : ∀ w', w' = w.setRow g (hc v t s f).toArray → Blk w' g T (hc v t s f).toArray → wpList Tryd.prog ops Q rest (a.put o.dst undef) w') : wpList Tryd.prog ops Q (o :: rest) a w :=
  wpList_store_row hgd ty x y ho g _ hx hy T _ hb (by rw [hi]; simp [hc, ht, hs]) (by simp [hc, ht, hs, ht0, hs0]) (hc_one v f t s) (h _ rfl (setRow_blk hb _))
theorem wpList_store_cv {ops : Array Oper} {rest : List Oper} {o : Oper} {a : Act} {w : World} {Q : Exit → Act → World → Prop} (hgd : o.guard = none) (ty : TypeId) (x y : Operand) (ho : o.op = .store ty x y)
    (g : Nat) (T : TypeId) (k k0 : Int) (t s p t0 s0 p0 : List UInt8) (hx : a.eval x = .pointer (some ⟨g, 0, none⟩)) (hy : a.eval y = Cv t s p k) (hb : Blk w g T (cc t0 s0 p0 k0).toArray)
    (hi : (Tryd.prog.info? ty).map (·.size) = some 33) (ht : t.length = 16) (hs : s.length = 8) (hp : p.length = 8) (ht0 : t0.length = 16) (hs0 : s0.length = 8) (hp0 : p0.length = 8)
    (h : ∀ w', w' = w.setRow g (cc t s p k).toArray → Blk w' g T (cc t s p k).toArray → wpList Tryd.prog ops Q rest (a.put o.dst undef) w') : wpList Tryd.prog ops Q (o :: rest) a w :=
  wpList_store_row hgd ty x y ho g _ hx hy T _ hb (by rw [hi]; simp [cc, ht, hs, hp]) (by simp [cc, ht, hs, hp, ht0, hs0, hp0]) (cc_one k t s p) (h _ rfl (setRow_blk hb _))
theorem wpList_build_to {ops : Array Oper} {rest : List Oper} {o : Oper} {a : Act} {w : World} {Q : Exit → Act → World → Prop} (hgd : o.guard = none) (ty : TypeId) (parts : Array (Nat × Operand)) (ho : o.op = .build ty parts)
    (vs : List (Nat × Value)) (cells : Array Value) (hv : (parts.map fun (i, x) => (i, a.eval x)).toList = vs) (hb : Tryd.prog.built ty vs = some cells)
    (h : wpList Tryd.prog ops Q rest (a.put o.dst (.agg cells)) w) : wpList Tryd.prog ops Q (o :: rest) a w := by
  refine wpList_build hgd ty parts ho (by rw [hv, hb]; rfl) ?_
  rw [hv, hb]; exact h
theorem wpList_build2 {ops : Array Oper} {rest : List Oper} {o : Oper} {a : Act} {w : World} {Q : Exit → Act → World → Prop} (hgd : o.guard = none) (ty : TypeId) (i0 i1 : Nat) (x0 x1 : Operand) (ho : o.op = .build ty #[(i0, x0), (i1, x1)])
    (v0 v1 : Value) (cells : Array Value) (h0 : a.eval x0 = v0) (h1 : a.eval x1 = v1) (hb : Tryd.prog.built ty [(i0, v0), (i1, v1)] = some cells)
    (h : wpList Tryd.prog ops Q rest (a.put o.dst (.agg cells)) w) : wpList Tryd.prog ops Q (o :: rest) a w :=
  wpList_build_to hgd ty _ ho _ cells (by simp [h0, h1]) hb h
theorem wpList_build3 {ops : Array Oper} {rest : List Oper} {o : Oper} {a : Act} {w : World} {Q : Exit → Act → World → Prop} (hgd : o.guard = none) (ty : TypeId) (i0 i1 i2 : Nat) (x0 x1 x2 : Operand) (ho : o.op = .build ty #[(i0, x0), (i1, x1), (i2, x2)])
    (v0 v1 v2 : Value) (cells : Array Value) (h0 : a.eval x0 = v0) (h1 : a.eval x1 = v1) (h2 : a.eval x2 = v2) (hb : Tryd.prog.built ty [(i0, v0), (i1, v1), (i2, v2)] = some cells)
    (h : wpList Tryd.prog ops Q rest (a.put o.dst (.agg cells)) w) : wpList Tryd.prog ops Q (o :: rest) a w :=
  wpList_build_to hgd ty _ ho _ cells (by simp [h0, h1, h2]) hb h
theorem wpList_build4 {ops : Array Oper} {rest : List Oper} {o : Oper} {a : Act} {w : World} {Q : Exit → Act → World → Prop} (hgd : o.guard = none) (ty : TypeId) (i0 i1 i2 i3 : Nat) (x0 x1 x2 x3 : Operand) (ho : o.op = .build ty #[(i0, x0), (i1, x1), (i2, x2), (i3, x3)])
    (v0 v1 v2 v3 : Value) (cells : Array Value) (h0 : a.eval x0 = v0) (h1 : a.eval x1 = v1) (h2 : a.eval x2 = v2) (h3 : a.eval x3 = v3) (hb : Tryd.prog.built ty [(i0, v0), (i1, v1), (i2, v2), (i3, v3)] = some cells)
    (h : wpList Tryd.prog ops Q rest (a.put o.dst (.agg cells)) w) : wpList Tryd.prog ops Q (o :: rest) a w :=
  wpList_build_to hgd ty _ ho _ cells (by simp [h0, h1, h2, h3]) hb h
/-- The same where a guard says yes. -/
theorem wpList_load_avW {ops : Array Oper} {rest : List Oper} {o : Oper} {a : Act} {w : World} {Q : Exit → Act → World → Prop} (hgd : Region.wanted o (yielded ops a.tmps) = true) (ty : TypeId) (x : Operand) (ho : o.op = .load ty x)
    (g n : Nat) (l : List UInt8) (t : TypeId) (hx : a.eval x = .pointer (some ⟨g, 0, none⟩)) (hb : Blk w g t (b8s l).toArray) (hty : Tryd.prog.underlying ty = some (.array n 5)) (hi : (Tryd.prog.info? ty).map (·.size) = some n) (hl : l.length = n)
    (h : wpList Tryd.prog ops Q rest (a.put o.dst (Av l)) w) : wpList Tryd.prog ops Q (o :: rest) a w :=
  BigFrame.wpList_want hgd fun _ hK => wp_load_row ty x ho g hx t _ _ _ hb hty rfl (by rw [hi]; simp [hl]) (hK _ _ h)
theorem wpList_load_segW {ops : Array Oper} {rest : List Oper} {o : Oper} {a : Act} {w : World} {Q : Exit → Act → World → Prop} (hgd : Region.wanted o (yielded ops a.tmps) = true) (ty : TypeId) (x : Operand) (ho : o.op = .load ty x)
    (g off n : Nat) (T : TypeId) (pre post : List Value) (l : List UInt8) (hx : a.eval x = .pointer (some ⟨g, off, none⟩)) (hb : Blk w g T (pre ++ (b8s l ++ post)).toArray) (hp : pre.length = off)
    (hty : Tryd.prog.underlying ty = some (.array n 5)) (hi : (Tryd.prog.info? ty).map (·.size) = some n) (hl : l.length = n)
    (h : wpList Tryd.prog ops Q rest (a.put o.dst (Av l)) w) : wpList Tryd.prog ops Q (o :: rest) a w :=
  BigFrame.wpList_want hgd fun _ hK => wp_load_mid ty x ho g off hx (b8s l) _ (run_load_seg (n := n) (ty := ty) hb hp) hty rfl (by rw [hi]; simp [hl]) (hK _ _ h)
theorem run_loadAt_seg {w : World} {ty g off n : Nat} {T : TypeId} {pre post : List Value} {l : List UInt8} (hb : Blk w g T (pre ++ (b8s l ++ post)).toArray) (hp : pre.length = off)
    (hty : Tryd.prog.underlying ty = some (.array n 5)) (hi : (Tryd.prog.info? ty).map (·.size) = some n) (hl : l.length = n) : (Instr.loadAt ty (.pointer (some ⟨g, off, none⟩))).run Tryd.prog w = .ok (Av l) w :=
  run_loadAt_mid w g off ty (b8s l) _ (run_load_seg (n := n) (ty := ty) hb hp) hty rfl (by rw [hi]; simp [hl])
theorem hc_trace (v f : Int) (t s : List UInt8) : hc v t s f = [.int .u8 v] ++ (b8s t ++ (b8s s ++ [.int .u8 f])) := by simp [hc]
theorem hc_span (v f : Int) (t s : List UInt8) : hc v t s f = ([.int .u8 v] ++ b8s t) ++ (b8s s ++ [.int .u8 f]) := by simp [hc]
theorem hc_cells {v f : Int} {t s : List UInt8} (ht : t.length = 16) (hs : s.length = 8) : (hc v t s f).toArray[0]? = some (.int .u8 v) ∧ (hc v t s f).toArray[25]? = some (.int .u8 f) := by
  obtain ⟨a0, a1, a2, a3, a4, a5, a6, a7, a8, a9, a10, a11, a12, a13, a14, a15, rfl⟩ := len16 ht
  obtain ⟨b0, b1, b2, b3, b4, b5, b6, b7, rfl⟩ := len8 hs
  exact ⟨rfl, rfl⟩
theorem hc_flags {v f : Int} {t s : List UInt8} (ht : t.length = 16) (hs : s.length = 8) (k : Int) : (hc v t s f).toArray.setIfInBounds 25 (.int .u8 k) = (hc v t s k).toArray := by
  obtain ⟨a0, a1, a2, a3, a4, a5, a6, a7, a8, a9, a10, a11, a12, a13, a14, a15, rfl⟩ := len16 ht
  obtain ⟨b0, b1, b2, b3, b4, b5, b6, b7, rfl⟩ := len8 hs
  rfl
theorem cc_cells {k : Int} {t s p : List UInt8} (ht : t.length = 16) (hs : s.length = 8) (hp : p.length = 8) : (cc t s p k).toArray[32]? = some (.int .i64 k) := by
  obtain ⟨a0, a1, a2, a3, a4, a5, a6, a7, a8, a9, a10, a11, a12, a13, a14, a15, rfl⟩ := len16 ht
  obtain ⟨b0, b1, b2, b3, b4, b5, b6, b7, rfl⟩ := len8 hs
  obtain ⟨c0, c1, c2, c3, c4, c5, c6, c7, rfl⟩ := len8 hp
  rfl
theorem cc_keep {k : Int} {t s p : List UInt8} (ht : t.length = 16) (hs : s.length = 8) (hp : p.length = 8) (m : Int) : (cc t s p k).toArray.setIfInBounds 32 (.int .i64 m) = (cc t s p m).toArray := by
  obtain ⟨a0, a1, a2, a3, a4, a5, a6, a7, a8, a9, a10, a11, a12, a13, a14, a15, rfl⟩ := len16 ht
  obtain ⟨b0, b1, b2, b3, b4, b5, b6, b7, rfl⟩ := len8 hs
  obtain ⟨c0, c1, c2, c3, c4, c5, c6, c7, rfl⟩ := len8 hp
  rfl
theorem results_hv2 {fn : Func} {p q : Tmp} {ty : TypeId} (h : fn.results = #[.cell p ty, .tmp q]) (tmps : Array Value) (w : World) (g : Nat) (T : TypeId) (d : TypeDesc) (v f : Int) (t s : List UInt8)
    (hp : tmps.getD p undef = .pointer (some ⟨g, 0, none⟩)) (hb : Blk w g T (hc v t s f).toArray) (hu : Tryd.prog.underlying ty = some d) (hd : d.isRow = true) (hi : (Tryd.prog.info? ty).map (·.size) = some 26) (ht : t.length = 16) (hs : s.length = 8) :
    (results fn tmps).run Tryd.prog w = .ok (.tuple #[Hv v t s f, tmps.getD q undef]) w := by
  have hp' : tmps[p]?.getD undef = .pointer (some ⟨g, 0, none⟩) := by simpa using hp
  have hl := run_loadVar_mid (P := Tryd.prog) w g 0 ty (hc v t s f) d (fun j u hu => by rw [Nat.zero_add, hb.cell j, ← hu]; simp) hu hd (by rw [hi]; simp [hc, ht, hs])
  simp [results, h, hp', asAddr, hl, Hv]
theorem results_hv1 {fn : Func} {p : Tmp} {ty : TypeId} (h : fn.results = #[.cell p ty]) (tmps : Array Value) (w : World) (g : Nat) (T : TypeId) (d : TypeDesc) (v f : Int) (t s : List UInt8)
    (hp : tmps.getD p undef = .pointer (some ⟨g, 0, none⟩)) (hb : Blk w g T (hc v t s f).toArray) (hu : Tryd.prog.underlying ty = some d) (hd : d.isRow = true) (hi : (Tryd.prog.info? ty).map (·.size) = some 26) (ht : t.length = 16) (hs : s.length = 8) :
    (results fn tmps).run Tryd.prog w = .ok (Hv v t s f) w := by
  have hp' : tmps[p]?.getD undef = .pointer (some ⟨g, 0, none⟩) := by simpa using hp
  have hl := run_loadVar_mid (P := Tryd.prog) w g 0 ty (hc v t s f) d (fun j u hu => by rw [Nat.zero_add, hb.cell j, ← hu]; simp) hu hd (by rw [hi]; simp [hc, ht, hs])
  simp [results, h, hp', asAddr, hl, Hv]
theorem results_cv1 {fn : Func} {q : Tmp} {ty : TypeId} (h : fn.results = #[.cell q ty]) (tmps : Array Value) (w : World) (g : Nat) (T : TypeId) (d : TypeDesc) (k : Int) (t s p : List UInt8)
    (hq : tmps.getD q undef = .pointer (some ⟨g, 0, none⟩)) (hb : Blk w g T (cc t s p k).toArray) (hu : Tryd.prog.underlying ty = some d) (hd : d.isRow = true) (hi : (Tryd.prog.info? ty).map (·.size) = some 33) (ht : t.length = 16) (hs : s.length = 8) (hp : p.length = 8) :
    (results fn tmps).run Tryd.prog w = .ok (Cv t s p k) w := by
  have hp' : tmps[q]?.getD undef = .pointer (some ⟨g, 0, none⟩) := by simpa using hq
  have hl := run_loadVar_mid (P := Tryd.prog) w g 0 ty (cc t s p k) d (fun j u hu => by rw [Nat.zero_add, hb.cell j, ← hu]; simp) hu hd (by rw [hi]; simp [cc, ht, hs, hp])
  simp [results, h, hp', asAddr, hl, Cv]
theorem run_part_one (w : World) (ty : TypeId) (k : IntKind) (xs : Array Value) (off : Nat) (u : Value) (hty : Tryd.prog.underlying ty = some (.int k)) (hu : xs[off]? = some u) : (part ty xs off).run Tryd.prog w = .ok u w := by
  simp [part, isAgg, run_underlying hty, hu]
theorem run_equalIn_av (w : World) (d ty n : Nat) (hty : Tryd.prog.underlying ty = some (.array n 5)) (x y : List UInt8) (hx : x.length = n) (hy : y.length = n) :
    (Op.equalIn (d + 2) ty (Av x) (Av y)).run Tryd.prog w = .ok (x == y) w :=
  run_equalIn_bytes (P := Tryd.prog) w d ty 5 n hty Tryd.underlying5 (fun w => size_u8 w) x y hx hy
theorem beq_toNat (a b : Int) : (a == b) = decide (a = b) := by by_cases h : a = b <;> simp [h]
/-- A struct's fields, one behind the other: equality goes field by field. -/
theorem run_eqFields_cons (w : World) (d : Nat) (xs ys : Array Value) (f : Field) (fs : List Field) (a b : Value) (r s : Bool) (hn : f.name ≠ "_") (ha : (part f.type xs f.offset).run Tryd.prog w = .ok a w) (hb : (part f.type ys f.offset).run Tryd.prog w = .ok b w)
    (he : (Op.equalIn d f.type a b).run Tryd.prog w = .ok r w) (hr : (Op.eqFields d xs ys fs).run Tryd.prog w = .ok s w) : (Op.eqFields d xs ys (f :: fs)).run Tryd.prog w = .ok (r && s) w := by
  simp only [Op.eqFields, if_pos hn, Sem.run_bind, ha, hb, he, Result.andThen_ok]
  cases r
  · simp
  · simpa using hr
theorem cc_trace (k : Int) (t s p : List UInt8) : cc t s p k = [] ++ (b8s t ++ (b8s s ++ b8s p ++ [.int .i64 k])) := by simp [cc]
theorem cc_span (k : Int) (t s p : List UInt8) : cc t s p k = b8s t ++ (b8s s ++ (b8s p ++ [.int .i64 k])) := by simp [cc]
theorem cc_parent (k : Int) (t s p : List UInt8) : cc t s p k = (b8s t ++ b8s s) ++ (b8s p ++ [.int .i64 k]) := by simp [cc]
end Go.Proofs.YtgfdmdikiickpaaDoor

/-! Parent -/
namespace Go.Proofs.YtgfdmdikiickpaaDoor
open Go.RowKit

theorem results_tmp5 {fn : Func} {t u v x y : Tmp} (h : fn.results = #[.tmp t, .tmp u, .tmp v, .tmp x, .tmp y]) (tmps : Array Value) (P : Program) (w : World) :
    (results fn tmps).run P w = .ok (.tuple #[tmps.getD t undef, tmps.getD u undef, tmps.getD v undef, tmps.getD x undef, tmps.getD y undef]) w := by simp [results, h]
def splitOk (s : List UInt8) : Bool := decide (55 ≤ s.length ∧ byteAt s 2 = 45 ∧ byteAt s 35 = 45 ∧ byteAt s 52 = 45)
def pV (s : List UInt8) : List UInt8 := s.take 2
def pT (s : List UInt8) : List UInt8 := (s.drop 3).take 32
def pX (s : List UInt8) : List UInt8 := (s.drop 36).take 16
def pF (s : List UInt8) : List UInt8 := (s.drop 53).take 2
def splitOut (s : List UInt8) : Value := if splitOk s = true then .tuple #[Sv (pV s), Sv (pT s), Sv (pX s), Sv (pF s), .bool true] else .tuple #[Sv [], Sv [], Sv [], Sv [], .bool false]
def oneV (s : List UInt8) : Int := match hexDec s with
  | some b => if b.length = 1 then byteAt b 0 else 0
  | none => 0
def oneOk (s : List UInt8) : Bool := match hexDec s with
  | some b => decide (b.length = 1)
  | none => false
theorem oneV_bd (s : List UInt8) : 0 ≤ oneV s ∧ oneV s ≤ 255 := by
  unfold oneV
  split
  · split
    · exact ⟨byteAt_lo _ _, byteAt_hi _ _⟩
    · omega
  · omega
end Go.Proofs.YtgfdmdikiickpaaDoor

/-! ParentRead -/
namespace Go.Proofs.YtgfdmdikiickpaaDoor
open Go.RowKit

theorem and1_fin : ∀ n : Fin 256, bits .and .u8 (n.val : Int) 1 = (n.val : Int) % 2 := by decide +kernel
theorem u8_and1 (f : Int) (h0 : 0 ≤ f) (h1 : f ≤ 255) : bits .and .u8 f 1 = f % 2 := by
  have := and1_fin ⟨f.toNat, by omega⟩
  rw [show ((f.toNat : Nat) : Int) = f by omega] at this
  exact this
/-- What is read as a header. -/
def hBad (c : Int) : Int × List UInt8 × List UInt8 × Int × Int := (0, zb 16, zb 8, 0, c)
def verBad (s : List UInt8) : Prop := oneV (pV s) = 255 ∨ (oneV (pV s) = 0 ∧ 55 < s.length) ∨ (55 < s.length ∧ byteAt s 55 ≠ 45)
instance (s : List UInt8) : Decidable (verBad s) := by unfold verBad; infer_instance
def readH (s : List UInt8) : Int × List UInt8 × List UInt8 × Int × Int :=
  if splitOk s = true then
    if oneOk (pV s) = true ∧ oneOk (pF s) = true then
      if verBad s then hBad 15
      else if traceC (pT s) = 3 ∨ spanC (pX s) = 3 then hBad 3
      else if traceC (pT s) = 0 ∧ spanC (pX s) = 0 then (oneV (pV s), traceT (pT s), spanT (pX s), if 0 < oneV (pV s) then oneV (pF s) % 2 else oneV (pF s), 0)
      else hBad 10
    else hBad 3
  else hBad 3
def hdrOut (r : Int × List UInt8 × List UInt8 × Int × Int) : Value := .tuple #[Hv r.1 r.2.1 r.2.2.1 r.2.2.2.1, .int .i64 r.2.2.2.2]
theorem hdrOut_bad (c : Int) : hdrOut (hBad c) = .tuple #[Hv 0 (zb 16) (zb 8) 0, .int .i64 c] := rfl
end Go.Proofs.YtgfdmdikiickpaaDoor
