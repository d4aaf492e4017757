/-
  Arrays of bytes by value.
-/
import Derived.Test.YtgfdmdikiickpaaDoorArr
import Derived.Stop.BytesEq
import Derived.Lib.BufferWrite
namespace Go.Proofs.YtgfdmdikiickpaaDoor
open Go.RowKit

/-- An array of bytes. -/
def Av (l : List UInt8) : Value := .agg (b8s l).toArray
@[go_sem high] theorem cells_Av (l : List UInt8) : (Av l).cells = (b8s l).toArray := rfl
@[go_sem high] theorem cells_match_Av (l : List UInt8) : Value.cells.match_1 (fun _ => Array Value) (Av l) (fun cs => cs) (fun v => #[v]) = (b8s l).toArray := rfl
theorem bs_blk {w : World} {g : Nat} {t : TypeId} {l : List UInt8} (h : Blk w g t (b8s l).toArray) (n : Nat) (hn : l.length = n) : Bs w w.heap.size (.slice (some ⟨g, 0, none⟩) n n) l := by
  subst hn
  refine ⟨_, _, rfl, Nat.le_refl _, by simp, fun _ => ⟨_, rfl, h.lt, fun j u hu => ?_⟩⟩
  rw [add_zero_off, h.cell j, ← hu]
  simp
theorem conv_box (w : World) (t : TypeId) (l : List UInt8) (n : Nat) (hn : l.length = n) :
    (convert 112 9 (.slice (some ⟨w.heap.size, 0, none⟩) n n)).run Tryd.prog (w.alloc (.cells (b8s l).toArray t)) = .ok (Sv l) (w.alloc (.cells (b8s l).toArray t)) :=
  run_to_string (bs_blk (Blk.new w t _) n hn)
theorem info_trace : (Tryd.prog.info? 25).map (·.size) = some 16 := by kernel_rfl
theorem info_span : (Tryd.prog.info? 27).map (·.size) = some 8 := by kernel_rfl
theorem run_load_av {w : World} {g ty n : Nat} {t : TypeId} {l : List UInt8} (hb : Blk w g t (b8s l).toArray) (hty : Tryd.prog.underlying ty = some (.array n 5)) (hi : (Tryd.prog.info? ty).map (·.size) = some n) (hl : l.length = n) :
    (loadVar ty ⟨g, 0, none⟩).run Tryd.prog w = .ok (Av l) w :=
  run_loadVar_row w g t ty _ _ _ hb hty rfl (by rw [hi]; simp [hl])
theorem wpList_load_av {ops : Array Oper} {rest : List Oper} {o : Oper} {a : Act} {w : World} {Q : Exit → Act → World → Prop} (hgd : o.guard = none) (ty : TypeId) (x : Operand) (ho : o.op = .load ty x)
    (g n : Nat) (l : List UInt8) (t : TypeId) (hx : a.eval x = .pointer (some ⟨g, 0, none⟩)) (hb : Blk w g t (b8s l).toArray) (hty : Tryd.prog.underlying ty = some (.array n 5)) (hi : (Tryd.prog.info? ty).map (·.size) = some n) (hl : l.length = n)
    (h : wpList Tryd.prog ops Q rest (a.put o.dst (Av l)) w) : wpList Tryd.prog ops Q (o :: rest) a w :=
  wpList_load_row hgd ty x ho g hx t _ _ _ hb hty rfl (by rw [hi]; simp [hl]) h
theorem setRow_blk {w : World} {g : Nat} {t : TypeId} {cs : Array Value} (h : Blk w g t cs) (cs' : Array Value) : Blk (w.setRow g cs') g t cs' := by
  unfold Blk at h ⊢
  simp [World.setRow, Array.getElem?_modify, h]
theorem setRow_below {B : Nat} {a w : World} {g : Nat} (h : Below B a w) (hg : B ≤ g) (cs' : Array Value) : Below B a (w.setRow g cs') := by
  refine h.trans ⟨rfl, rfl, rfl, by simp [World.setRow], fun i hi => ?_⟩
  simp only [World.setRow, Array.getElem?_modify]
  rw [if_neg (by omega)]
theorem setRow_far {w : World} {g g' : Nat} {t : TypeId} {cs cs' : Array Value} (h : Blk w g t cs) (hne : g' ≠ g) : Blk (w.setRow g' cs') g t cs := by
  unfold Blk at h ⊢
  simp only [World.setRow, Array.getElem?_modify]
  rw [if_neg hne]; exact h
theorem b8s_all (l : List UInt8) : (b8s l).toArray.all (·.oneCell') = true := by
  rw [Array.all_eq_true_iff_forall_mem]
  intro v hv
  exact b8s_one l v (by simpa using hv)
theorem wpList_store_av {ops : Array Oper} {rest : List Oper} {o : Oper} {a : Act} {w : World} {Q : Exit → Act → World → Prop} (hgd : o.guard = none) (ty : TypeId) (x y : Operand) (ho : o.op = .store ty x y)
    (g n : Nat) (l l0 : List UInt8) (t : TypeId) (hx : a.eval x = .pointer (some ⟨g, 0, none⟩)) (hy : a.eval y = Av l) (hb : Blk w g t (b8s l0).toArray) (hi : (Tryd.prog.info? ty).map (·.size) = some n) (hl : l.length = n) (hl0 : l0.length = n)
    (h : ∀ w', w' = w.setRow g (b8s l).toArray → Blk w' g t (b8s l).toArray → wpList Tryd.prog ops Q rest (a.put o.dst undef) w') : wpList Tryd.prog ops Q (o :: rest) a w :=
  wpList_store_row hgd ty x y ho g _ hx hy t _ hb (by rw [hi]; simp [hl]) (by simp [hl, hl0]) (b8s_all l) (h _ rfl (setRow_blk hb _))
def zb (n : Nat) : List UInt8 := List.replicate n 0
@[simp] theorem zb_length (n : Nat) : (zb n).length = n := by simp [zb]
/-- '==' between two arrays of bytes. -/
theorem run_eq_av (w : World) (ty n : Nat) (hty : Tryd.prog.underlying ty = some (.array n 5)) (x y : List UInt8) (hx : x.length = n) (hy : y.length = n) :
    (binOp .eql ty (Av x) (Av y)).run Tryd.prog w = .ok (.bool (x == y)) w :=
  run_eql_bytes w ty 5 n hty Tryd.underlying5 (fun w => size_u8 w) x y hx hy
theorem run_neq_av (w : World) (ty n : Nat) (hty : Tryd.prog.underlying ty = some (.array n 5)) (x y : List UInt8) (hx : x.length = n) (hy : y.length = n) :
    (binOp .neq ty (Av x) (Av y)).run Tryd.prog w = .ok (.bool (!(x == y))) w := by
  show (binOp .neq ty (.agg _) (.agg _)).run Tryd.prog w = _
  rw [run_neq_struct]
  have := run_equalIn_bytes (P := Tryd.prog) w 9998 ty 5 n hty Tryd.underlying5 (fun w => size_u8 w) x y hx hy
  rw [show (b8s x).toArray = (x.map Extern.Stop.cell).toArray from rfl, show (b8s y).toArray = (y.map Extern.Stop.cell).toArray from rfl, this]
  rfl
theorem results_av2 {fn : Func} {p q : Tmp} {ty n : Nat} (h : fn.results = #[.cell p ty, .tmp q]) (tmps : Array Value) (w : World) (g : Nat) (t : TypeId) (l : List UInt8)
    (hp : tmps.getD p undef = .pointer (some ⟨g, 0, none⟩)) (hb : Blk w g t (b8s l).toArray) (hty : Tryd.prog.underlying ty = some (.array n 5)) (hi : (Tryd.prog.info? ty).map (·.size) = some n) (hl : l.length = n) :
    (results fn tmps).run Tryd.prog w = .ok (.tuple #[Av l, tmps.getD q undef]) w := by
  have hp' : tmps[p]?.getD undef = .pointer (some ⟨g, 0, none⟩) := by simpa using hp
  simp [results, h, hp', asAddr, run_load_av hb hty hi hl]
theorem results_av1 {fn : Func} {p : Tmp} {ty n : Nat} (h : fn.results = #[.cell p ty]) (tmps : Array Value) (w : World) (g : Nat) (t : TypeId) (l : List UInt8)
    (hp : tmps.getD p undef = .pointer (some ⟨g, 0, none⟩)) (hb : Blk w g t (b8s l).toArray) (hty : Tryd.prog.underlying ty = some (.array n 5)) (hi : (Tryd.prog.info? ty).map (·.size) = some n) (hl : l.length = n) :
    (results fn tmps).run Tryd.prog w = .ok (Av l) w := by
  have hp' : tmps[p]?.getD undef = .pointer (some ⟨g, 0, none⟩) := by simpa using hp
  simp [results, h, hp', asAddr, run_load_av hb hty hi hl]
/-- '==' and '!=' with the array of noughts, as the walk spells it. -/
theorem run_eq_z16 (w : World) (x : List UInt8) (hx : x.length = 16) : (binOp .eql 25 (Av x) (.agg #[.int .u8 0, .int .u8 0, .int .u8 0, .int .u8 0, .int .u8 0, .int .u8 0, .int .u8 0, .int .u8 0, .int .u8 0, .int .u8 0, .int .u8 0, .int .u8 0, .int .u8 0, .int .u8 0, .int .u8 0, .int .u8 0])).run Tryd.prog w = .ok (.bool (x == zb 16)) w :=
  run_eq_av w 25 16 Tryd.underlying25 x (zb 16) hx (zb_length 16)
theorem run_eq_z8 (w : World) (x : List UInt8) (hx : x.length = 8) : (binOp .eql 27 (Av x) (.agg #[.int .u8 0, .int .u8 0, .int .u8 0, .int .u8 0, .int .u8 0, .int .u8 0, .int .u8 0, .int .u8 0])).run Tryd.prog w = .ok (.bool (x == zb 8)) w :=
  run_eq_av w 27 8 Tryd.underlying27 x (zb 8) hx (zb_length 8)
theorem run_neq_z16 (w : World) (x : List UInt8) (hx : x.length = 16) : (binOp .neq 25 (Av x) (.agg #[.int .u8 0, .int .u8 0, .int .u8 0, .int .u8 0, .int .u8 0, .int .u8 0, .int .u8 0, .int .u8 0, .int .u8 0, .int .u8 0, .int .u8 0, .int .u8 0, .int .u8 0, .int .u8 0, .int .u8 0, .int .u8 0])).run Tryd.prog w = .ok (.bool (!(x == zb 16))) w :=
  run_neq_av w 25 16 Tryd.underlying25 x (zb 16) hx (zb_length 16)
theorem run_neq_z8 (w : World) (x : List UInt8) (hx : x.length = 8) : (binOp .neq 27 (Av x) (.agg #[.int .u8 0, .int .u8 0, .int .u8 0, .int .u8 0, .int .u8 0, .int .u8 0, .int .u8 0, .int .u8 0])).run Tryd.prog w = .ok (.bool (!(x == zb 8))) w :=
  run_neq_av w 27 8 Tryd.underlying27 x (zb 8) hx (zb_length 8)
/-- copy of a text's bytes into an array. -/
theorem wpList_copy_str {ops : Array Oper} {rest : List Oper} {o : Oper} {a : Act} {w : World} {Q : Exit → Act → World → Prop} (hgd : o.guard = none) (d s : Operand)
    (ho : o.op = .call { callee := .builtin .copy, args := #[d, s], argTypes := #[112, 9] }) (g off n cap : Nat) (t : TypeId) (L b : List UInt8)
    (hd : a.eval d = .slice (some ⟨g, off, none⟩) n cap) (hs : a.eval s = Sv b) (hb : Blk w g t (b8s L).toArray) (hn : b.length ≤ n) (hfit : off + b.length ≤ L.length)
    (h : ∀ w' cs, w' = w.setRow g cs → Blk w' g t (b8s (L.take off ++ b ++ L.drop (off + b.length))).toArray → wpList Tryd.prog ops Q rest (a.put o.dst (goInt b.length)) w') : wpList Tryd.prog ops Q (o :: rest) a w := by
  obtain ⟨i0, hi, hz0, hz1, hz2⟩ := info_parts info_u8
  refine wpList_plain hgd fun K hK => ?_
  have hrun := Lib.run_copy_row_string (P := Tryd.prog) w 112 9 o.type 5 g off n cap ⟨b.toArray⟩ (b8s L).toArray t und_bytes (by rw [hi]; simp [hz1]) hb hn (by simpa [ByteArray.size] using hfit)
  unfold Oper.wp
  have hs' : a.eval s = .string ⟨b.toArray⟩ := hs
  simp only [execOp, ho, resolve, invoke, builtin, Sem.run_bind, Sem.run_pure, Result.andThen_ok, List.map_toArray, List.map_cons, List.map_nil, hd, hs', hrun]
  refine hK _ _ (h _ _ rfl ?_)
  have hc := setRow_blk hb ((b8s L).take off ++ Lib.byteCells b ++ (b8s L).drop (off + (⟨b.toArray⟩ : ByteArray).size)).toArray
  have e : (b8s L).take off ++ Lib.byteCells b ++ (b8s L).drop (off + (⟨b.toArray⟩ : ByteArray).size) = b8s (L.take off ++ b ++ L.drop (off + b.length)) := by
    simp [b8s, List.map_take, List.map_drop, ByteArray.size]; rfl
  exact e ▸ hc
theorem guard_trace : Tryd.prog.eqGuardType Tryd.prog.depth 25 = false := by kernel_rfl
@[go_sem] theorem run_eqGuard_trace (w : World) (op : BinOp) (x y : Operand) (a : List UInt8) (ys : Array Value) : (eqGuard op 25 x y (Av a) (.agg ys)).run Tryd.prog w = .ok () w := run_eqGuard_agg w op _ x y _ ys guard_trace
@[go_sem] theorem run_eqGuard_trace2 (w : World) (op : BinOp) (x y : Operand) (a b : List UInt8) : (eqGuard op 25 x y (Av a) (Av b)).run Tryd.prog w = .ok () w := run_eqGuard_agg w op _ x y _ _ guard_trace
theorem guard_span : Tryd.prog.eqGuardType Tryd.prog.depth 27 = false := by kernel_rfl
@[go_sem] theorem run_eqGuard_span (w : World) (op : BinOp) (x y : Operand) (a : List UInt8) (ys : Array Value) : (eqGuard op 27 x y (Av a) (.agg ys)).run Tryd.prog w = .ok () w := run_eqGuard_agg w op _ x y _ ys guard_span
@[go_sem] theorem run_eqGuard_span2 (w : World) (op : BinOp) (x y : Operand) (a b : List UInt8) : (eqGuard op 27 x y (Av a) (Av b)).run Tryd.prog w = .ok () w := run_eqGuard_agg w op _ x y _ _ guard_span
end Go.Proofs.YtgfdmdikiickpaaDoor
