/-
  Contexts by value: equality, a part stored in the midst.
-/
import Derived.Test.YtgfdmdikiickpaaDoorParentOf
namespace Go.Proofs.YtgfdmdikiickpaaDoor
open Go.RowKit

set_option maxRecDepth 100000 in
theorem fields_ctx : (Tryd.prog.fieldsOf 29).toList.map (fun f => (f.name == "_", f.type, f.offset)) = [(false, 25, 0), (false, 27, 16), (false, 27, 24), (false, 3, 32)] := by kernel_rfl
set_option maxRecDepth 100000 in
theorem und_ctx : Tryd.prog.underlying 29 = some (.struct (Tryd.prog.fieldsOf 29)) := by kernel_rfl
set_option maxRecDepth 100000 in
theorem held_ctx : Tryd.prog.stoodInHeld 29 = false := by kernel_rfl
theorem run_equalIn_cv (w : World) (d : Nat) (k k' : Int) (t s p t' s' p' : List UInt8) (ht : t.length = 16) (hs : s.length = 8) (hp : p.length = 8) (ht' : t'.length = 16) (hs' : s'.length = 8) (hp' : p'.length = 8) :
    (Op.equalIn (d + 3) 29 (Cv t s p k) (Cv t' s' p' k')).run Tryd.prog w = .ok (t == t' && (s == s' && (p == p' && (k == k' && true)))) w := by
  unfold Cv
  rw [run_equalIn_struct w (d + 2) 29 _ _ und_ctx held_ctx]
  have hf := fields_ctx
  revert hf
  generalize (Tryd.prog.fieldsOf 29).toList = fs
  intro hf
  have hlen : fs.length = 4 := by have := congrArg List.length hf; simpa using this
  match fs, hlen with
  | [f0, f1, f2, f3], _ =>
    simp only [List.map_cons, List.map_nil, List.cons.injEq, Prod.mk.injEq, and_true] at hf
    obtain ⟨⟨n0, t0, o0⟩, ⟨n1, t1, o1⟩, ⟨n2, t2, o2⟩, ⟨n3, t3, o3⟩⟩ := hf
    have c3 := cc_cells (k := k) ht hs hp
    have c3' := cc_cells (k := k') ht' hs' hp'
    refine run_eqFields_cons w _ _ _ f0 _ (Av t) (Av t') _ _ (by simpa using n0) (by rw [t0, o0, cc_trace]; exact run_part_seg w _ 16 0 _ _ t Tryd.underlying25 info_trace rfl ht) (by rw [t0, o0, cc_trace]; exact run_part_seg w _ 16 0 _ _ t' Tryd.underlying25 info_trace rfl ht') (by rw [t0]; exact run_equalIn_av w _ _ 16 Tryd.underlying25 t t' ht ht') ?_
    refine run_eqFields_cons w _ _ _ f1 _ (Av s) (Av s') _ _ (by simpa using n1) (by rw [t1, o1, cc_span]; exact run_part_seg w _ 8 16 _ _ s Tryd.underlying27 info_span (by simp [ht]) hs) (by rw [t1, o1, cc_span]; exact run_part_seg w _ 8 16 _ _ s' Tryd.underlying27 info_span (by simp [ht']) hs') (by rw [t1]; exact run_equalIn_av w _ _ 8 Tryd.underlying27 s s' hs hs') ?_
    refine run_eqFields_cons w _ _ _ f2 _ (Av p) (Av p') _ _ (by simpa using n2) (by rw [t2, o2, cc_parent]; exact run_part_seg w _ 8 24 _ _ p Tryd.underlying27 info_span (by simp [ht, hs]) hp) (by rw [t2, o2, cc_parent]; exact run_part_seg w _ 8 24 _ _ p' Tryd.underlying27 info_span (by simp [ht', hs']) hp') (by rw [t2]; exact run_equalIn_av w _ _ 8 Tryd.underlying27 p p' hp hp') ?_
    refine run_eqFields_cons w _ _ _ f3 _ (.int .i64 k) (.int .i64 k') _ _ (by simpa using n3) (by rw [t3, o3]; exact run_part_one w _ _ _ _ _ Tryd.underlying3 c3) (by rw [t3, o3]; exact run_part_one w _ _ _ _ _ Tryd.underlying3 c3') (by rw [t3]; exact run_equalIn_int w _ _ .i64 .i64 k k' Tryd.underlying3) ?_
    simp [Op.eqFields]
def cvq (t s p : List UInt8) (k : Int) (t' s' p' : List UInt8) (k' : Int) : Bool := t == t' && (s == s' && (p == p' && (k == k' && true)))
theorem cvq_self (t s p : List UInt8) (k : Int) : cvq t s p k t s p k = true := by simp [cvq]
theorem run_eq_cv (w : World) (k k' : Int) (t s p t' s' p' : List UInt8) (ht : t.length = 16) (hs : s.length = 8) (hp : p.length = 8) (ht' : t'.length = 16) (hs' : s'.length = 8) (hp' : p'.length = 8) :
    (binOp .eql 29 (Cv t s p k) (Cv t' s' p' k')).run Tryd.prog w = .ok (.bool (cvq t s p k t' s' p' k')) w := by
  show (binOp .eql 29 (.agg _) (.agg _)).run Tryd.prog w = _
  rw [run_eql_struct]
  have := run_equalIn_cv w 9997 k k' t s p t' s' p' ht hs hp ht' hs' hp'
  unfold Cv at this
  rw [this]; rfl
theorem run_neq_cv (w : World) (k k' : Int) (t s p t' s' p' : List UInt8) (ht : t.length = 16) (hs : s.length = 8) (hp : p.length = 8) (ht' : t'.length = 16) (hs' : s'.length = 8) (hp' : p'.length = 8) :
    (binOp .neq 29 (Cv t s p k) (Cv t' s' p' k')).run Tryd.prog w = .ok (.bool (!(cvq t s p k t' s' p' k'))) w := by
  show (binOp .neq 29 (.agg _) (.agg _)).run Tryd.prog w = _
  rw [run_neq_struct]
  have := run_equalIn_cv w 9997 k k' t s p t' s' p' ht hs hp ht' hs' hp'
  unfold Cv at this
  rw [this]; rfl
@[go_sem] theorem run_eqGuard_cv (w : World) (op : BinOp) (x y : Operand) (t s p t' s' p' : List UInt8) (k k' : Int) : (eqGuard op 29 x y (Cv t s p k) (Cv t' s' p' k')).run Tryd.prog w = .ok () w := run_eqGuard_agg w op _ x y _ _ guard_ctx
/-- Cells stored one by one in the midst of a block. -/
theorem Blk.cells {g : Nat} {T : TypeId} : ∀ (new pre mid post : List Value) {w : World}, Blk w g T (pre ++ (mid ++ post)).toArray → new.length = mid.length → Blk (w.setCells g pre.length new) g T (pre ++ (new ++ post)).toArray
  | [], pre, mid, post, w, h, hl => by
    obtain rfl : mid = [] := List.eq_nil_of_length_eq_zero (by simpa using hl.symm)
    exact h
  | v :: r, pre, [], post, w, h, hl => by simp at hl
  | v :: r, pre, m :: ms, post, w, h, hl => by
    have h1 := h.set_ pre.length v
    have e : ((pre ++ (m :: ms ++ post)).toArray.setIfInBounds pre.length v) = ((pre ++ [v]) ++ (ms ++ post)).toArray := by
      rw [List.setIfInBounds_toArray]
      congr 1
      rw [List.set_append_right _ _ (Nat.le_refl _)]
      simp
    rw [e] at h1
    have h2 := Blk.cells r (pre ++ [v]) ms post h1 (by simpa using hl)
    rw [List.length_append] at h2
    rw [World.setCells]
    simpa using h2
theorem below_setCells {B : Nat} {a : World} {g : Nat} (hg : B ≤ g) : ∀ (vs : List Value) (o : Nat) {w : World}, Below B a w → Below B a (w.setCells g o vs)
  | [], _, _, h => h
  | v :: r, o, w, h => by
    rw [World.setCells]
    exact below_setCells hg r (o + 1) (below_cellAt h hg o v)
theorem setCells_far {g g' : Nat} {T : TypeId} {cs : Array Value} (hne : g' ≠ g) : ∀ (vs : List Value) (o : Nat) {w : World}, Blk w g T cs → Blk (w.setCells g' o vs) g T cs
  | [], _, _, h => h
  | v :: r, o, w, h => by
    rw [World.setCells]
    have hne' : g ≠ (⟨g', o, none⟩ : Addr).block := Ne.symm hne
    exact setCells_far hne r (o + 1) (h.far hne' v)
theorem blk_there {w : World} {g : Nat} {T : TypeId} {pre mid post : List Value} (h : Blk w g T (pre ++ (mid ++ post)).toArray) : w.there g pre.length mid.length := by
  intro j hj
  refine ⟨?_, h.frozen _⟩
  rw [h.cell]
  have hlt : pre.length + j < (pre ++ (mid ++ post)).length := by simp; omega
  simp only [List.getElem?_toArray]
  rw [List.getElem?_eq_getElem hlt]; rfl
theorem wpList_store_seg {ops : Array Oper} {rest : List Oper} {o : Oper} {a : Act} {w : World} {Q : Exit → Act → World → Prop} (hgd : o.guard = none) (ty : TypeId) (x y : Operand) (ho : o.op = .store ty x y)
    (g off n : Nat) (T : TypeId) (pre post : List Value) (l l0 : List UInt8) (hx : a.eval x = .pointer (some ⟨g, off, none⟩)) (hy : a.eval y = Av l) (hb : Blk w g T (pre ++ (b8s l0 ++ post)).toArray) (hp : pre.length = off)
    (hi : (Tryd.prog.info? ty).map (·.size) = some n) (hl : l.length = n) (hl0 : l0.length = n)
    (h : ∀ w', w' = w.setCells g off (b8s l) → Blk w' g T (pre ++ (b8s l ++ post)).toArray → wpList Tryd.prog ops Q rest (a.put o.dst undef) w') : wpList Tryd.prog ops Q (o :: rest) a w := by
  subst hp
  refine wpList_store_mid hgd ty x y ho g pre.length (b8s l).toArray hx hy ?_ (by rw [hi]; simp [hl]) (b8s_all l) (h _ (by simp) (Blk.cells _ _ _ _ hb (by simp [hl, hl0])))
  have := blk_there hb
  simpa [hl, hl0] using this
theorem wpList_load_hvW {ops : Array Oper} {rest : List Oper} {o : Oper} {a : Act} {w : World} {Q : Exit → Act → World → Prop} (hgd : Region.wanted o (yielded ops a.tmps) = true) (ty : TypeId) (x : Operand) (ho : o.op = .load ty x)
    (g : Nat) (T : TypeId) (d : TypeDesc) (v f : Int) (t s : List UInt8) (hx : a.eval x = .pointer (some ⟨g, 0, none⟩)) (hb : Blk w g T (hc v t s f).toArray)
    (hu : Tryd.prog.underlying ty = some d) (hd : d.isRow = true) (hi : (Tryd.prog.info? ty).map (·.size) = some 26) (ht : t.length = 16) (hs : s.length = 8)
    (h : wpList Tryd.prog ops Q rest (a.put o.dst (Hv v t s f)) w) : wpList Tryd.prog ops Q (o :: rest) a w :=
  BigFrame.wpList_want hgd fun _ hK => wp_load_mid ty x ho g 0 hx (hc v t s f) d (fun j u hu => by rw [Nat.zero_add, hb.cell j, ← hu]; simp) hu hd (by rw [hi]; simp [hc, ht, hs]) (hK _ _ h)
theorem wpList_load_cvW {ops : Array Oper} {rest : List Oper} {o : Oper} {a : Act} {w : World} {Q : Exit → Act → World → Prop} (hgd : Region.wanted o (yielded ops a.tmps) = true) (ty : TypeId) (x : Operand) (ho : o.op = .load ty x)
    (g : Nat) (T : TypeId) (d : TypeDesc) (k : Int) (t s p : List UInt8) (hx : a.eval x = .pointer (some ⟨g, 0, none⟩)) (hb : Blk w g T (cc t s p k).toArray)
    (hu : Tryd.prog.underlying ty = some d) (hd : d.isRow = true) (hi : (Tryd.prog.info? ty).map (·.size) = some 33) (ht : t.length = 16) (hs : s.length = 8) (hp : p.length = 8)
    (h : wpList Tryd.prog ops Q rest (a.put o.dst (Cv t s p k)) w) : wpList Tryd.prog ops Q (o :: rest) a w :=
  BigFrame.wpList_want hgd fun _ hK => wp_load_mid ty x ho g 0 hx (cc t s p k) d (fun j u hu => by rw [Nat.zero_add, hb.cell j, ← hu]; simp) hu hd (by rw [hi]; simp [cc, ht, hs, hp]) (hK _ _ h)
theorem wpList_buildW {ops : Array Oper} {rest : List Oper} {o : Oper} {a : Act} {w : World} {Q : Exit → Act → World → Prop} (hgd : Region.wanted o (yielded ops a.tmps) = true) (ty : TypeId) (parts : Array (Nat × Operand)) (ho : o.op = .build ty parts)
    (vs : List (Nat × Value)) (cells : Array Value) (hv : (parts.map fun (i, x) => (i, a.eval x)).toList = vs) (hb : Tryd.prog.built ty vs = some cells)
    (h : wpList Tryd.prog ops Q rest (a.put o.dst (.agg cells)) w) : wpList Tryd.prog ops Q (o :: rest) a w := by
  refine BigFrame.wpList_want hgd fun _ hK => ?_
  refine wp_build ty parts ho (by rw [hv, hb]; rfl) (hK _ _ ?_)
  rw [hv, hb]; exact h
set_option maxRecDepth 100000 in
theorem built_zspan : Tryd.prog.built 27 [] = some (b8s (zb 8)).toArray := by kernel_rfl
theorem field_at {T : TypeId} {i ty off : Nat} (h : ((Tryd.prog.fieldsOf T).toList.map (fun f => (f.name == "_", f.type, f.offset)))[i]? = some (false, ty, off)) : ∃ f, (Tryd.prog.fieldsOf T)[i]? = some f ∧ f.type = ty ∧ f.offset = off := by
  rw [List.getElem?_map, Array.getElem?_toList] at h
  cases hf : (Tryd.prog.fieldsOf T)[i]? with
  | none => rw [hf] at h; cases h
  | some f =>
    rw [hf] at h
    simp only [Option.map_some, Option.some.injEq, Prod.mk.injEq] at h
    exact ⟨f, rfl, h.2.1, h.2.2⟩
theorem run_field_keep (w : World) (t s p : List UInt8) (k : Int) (ht : t.length = 16) (hs : s.length = 8) (hp : p.length = 8) : (Instr.field 29 (Cv t s p k) 3).run Tryd.prog w = .ok (.int .i64 k) w := by
  obtain ⟨f, hf, h1, h2⟩ := field_at (T := 29) (i := 3) (ty := 3) (off := 32) (by rw [fields_ctx]; rfl)
  have hp := run_part_one w 3 .i64 (cc t s p k).toArray 32 (.int .i64 k) Tryd.underlying3 (cc_cells ht hs hp)
  simp [Instr.field, run_underlying und_ctx, hf, h1, h2, Cv, asAgg, hp, Result.andThen]
set_option maxRecDepth 100000 in
theorem built_ckeep : Tryd.prog.built 29 [(3, .int .i64 3)] = some (cc (zb 16) (zb 8) (zb 8) 3).toArray := by kernel_rfl
theorem new_hv (w : World) (T : TypeId) : Blk (w.alloc (.cells #[.int .u8 0, .int .u8 0, .int .u8 0, .int .u8 0, .int .u8 0, .int .u8 0, .int .u8 0, .int .u8 0, .int .u8 0, .int .u8 0, .int .u8 0, .int .u8 0, .int .u8 0, .int .u8 0, .int .u8 0, .int .u8 0, .int .u8 0, .int .u8 0, .int .u8 0, .int .u8 0, .int .u8 0, .int .u8 0, .int .u8 0, .int .u8 0, .int .u8 0, .int .u8 0] T)) w.heap.size T (hc 0 (zb 16) (zb 8) 0).toArray := Blk.new w T _
theorem new_cv (w : World) (T : TypeId) : Blk (w.alloc (.cells #[.int .u8 0, .int .u8 0, .int .u8 0, .int .u8 0, .int .u8 0, .int .u8 0, .int .u8 0, .int .u8 0, .int .u8 0, .int .u8 0, .int .u8 0, .int .u8 0, .int .u8 0, .int .u8 0, .int .u8 0, .int .u8 0, .int .u8 0, .int .u8 0, .int .u8 0, .int .u8 0, .int .u8 0, .int .u8 0, .int .u8 0, .int .u8 0, .int .u8 0, .int .u8 0, .int .u8 0, .int .u8 0, .int .u8 0, .int .u8 0, .int .u8 0, .int .u8 0, .int .i64 0] T)) w.heap.size T (cc (zb 16) (zb 8) (zb 8) 0).toArray := Blk.new w T _
theorem stored_new {w wn : World} {T : TypeId} {cs0 cs : Array Value} (h : wn = (w.alloc (.cells cs0 T)).setRow w.heap.size cs) : Below w.heap.size w wn := by
  subst h; exact setRow_below (ext_alloc _ _) (Nat.le_refl _) _
end Go.Proofs.YtgfdmdikiickpaaDoor
